/- What the proofs stand on, in one text: Bd, Be, Bf, Bg, Fa. -/
import Derived.Test.YtdfkcijholopoaaMg5
namespace Go.Proofs.Ytdfkcijholopoaa.Vm
open Go Go.RowKit
set_option maxRecDepth 10000
set_option linter.unusedSimpArgs false
set_option linter.unusedVariables false

theorem blk24 {x y : Int} {X Y m : Nat} (hx : x = (X : Int)) (hy : y = (Y : Int)) : some (Blk.cells [.int .u64 x, .int .u64 y] m true) = some (.cells [u64 X, u64 Y] m true) := by subst hx hy; rfl


theorem p35 (x y : Nat) : Pure 35 [b8 x, b8 y] (b8 ((x + y) % 2 ^ 256)) := by
  refine pure_of Try.func35 rfl Try.ntmps35 (by kernel_rfl) (by simp [plainL, plain_b8]) (by simp) (plain_b8 _) ?_
  refine vc_seq ?_
  refine vc_go (by kernel_rfl) fun K hK => hK _ _ _ ?_
  clear hK K
  refine vc_seq ?_
  refine vc_go (by kernel_rfl) fun K hK => hK _ _ _ ?_
  clear hK K
  refine vc_seq ?_
  refine vc_go (by kernel_rfl) fun K hK => hK _ _ _ ?_
  clear hK K
  refine vc_seq ?_
  refine vc_seq ?_
  refine vc_go (by kernel_rfl) fun K hK => hK _ _ _ ?_
  clear hK K
  refine vc_block ?_
  refine vc_loop (fun n s => ∃ i : Nat, n = 256 - i ∧ i ≤ 256 ∧ IsSt [(2, pt 0), (3, pt 1), (4, pt 2), (5, pt 3), (6, .bool (cr x y i)), (7, .int .i64 (i : Nat))] [(0, .cells (bl (fun k => x.testBit k)) 32 true), (1, .cells (bl (fun k => y.testBit k)) 32 true), (2, .cells bits0 32 true), (3, .cells (bl (fun k => decide (k < i) && (x + y).testBit k)) 32 true)] 4 s) 256 ?_ ?_
  · exact ⟨0, rfl, by decide, isSt ⟨rfl, rfl, rfl, rfl, bb (cr_zero x y).symm, rfl, trivial⟩ ⟨rfl, rfl, rfl, blk0 (pre_zero (g := fun k => (x + y).testBit k)), trivial⟩ rfl⟩
  · rintro n s ⟨i, hn, hi, t, h, rfl⟩
    refine vc_seq ?_
    refine vc_seq ?_
    refine vc_go (by kernel_rfl) fun K hK => hK _ _ _ ?_
    clear hK K
    refine vc_cond rfl (fun c0 => ?_) (fun c0 => ?_)
    · -- cond 0 t10 true
      refine vc_skip ?_
      refine vc_seq ?_
      refine vc_block ?_
      refine vc_seq ?_
      have hlt : i < 256 := by
        simp only [decide_eq_true_eq] at c0
        omega
      refine vc_go (by kernel_rfl) fun K hK => hK _ _ _ ?_
      clear hK K
      refine vc_seq ?_
      refine vc_seq ?_
      refine vc_reg (by kernel_rfl) fun K hK => ?_
      refine run_n (z := false) 1 (fun K' hK' => hK' _ _ _ ?_) (by decide)
      clear hK' K'
      refine run_op (vex_ixa (j := i) rfl rfl rfl (show i < 256 by omega) rfl rfl) rfl ?_
      refine run_rd (vex_ld1 (k' := i) rfl (Nat.zero_add _ |>.trans (Nat.mul_one _)) rfl rfl (bl_get _ (by omega))) rfl ?_
      refine run_end (z := false) fun K' hK' => hK' _ _ _ (hK _ _ _ ?_)
      clear hK' K' hK K
      refine vc_cond rfl (fun bx => ?_) (fun bx => ?_)
      · -- cond 1 t15 true
        refine vc_go (by kernel_rfl) fun K hK => hK _ _ _ ?_
        clear hK K
        refine vc_seq ?_
        refine vc_seq ?_
        refine vc_reg (by kernel_rfl) fun K hK => ?_
        refine run_n (z := false) 1 (fun K' hK' => hK' _ _ _ ?_) (by decide)
        clear hK' K'
        refine run_op (vex_ixa (j := i) rfl rfl rfl (show i < 256 by omega) rfl rfl) rfl ?_
        refine run_rd (vex_ld1 (k' := i) rfl (Nat.zero_add _ |>.trans (Nat.mul_one _)) rfl rfl (bl_get _ (by omega))) rfl ?_
        refine run_end (z := false) fun K' hK' => hK' _ _ _ (hK _ _ _ ?_)
        clear hK' K' hK K
        refine vc_cond rfl (fun by1 => ?_) (fun by1 => ?_)
        · -- cond 2 t20 true
          refine vc_go (by kernel_rfl) fun K hK => hK _ _ _ ?_
          clear hK K
          refine vc_seq ?_
          refine vc_seq ?_
          refine vc_go (by kernel_rfl) fun K hK => hK _ _ _ ?_
          clear hK K
          refine vc_cond rfl (fun bc => ?_) (fun bc => ?_)
          · -- cond 3 t23 true
            refine vc_go (by kernel_rfl) fun K hK => hK _ _ _ ?_
            clear hK K
            refine vc_seq ?_
            refine vc_reg (by kernel_rfl) fun K hK => ?_
            refine run_n (z := false) 4 (fun K' hK' => hK' _ _ _ ?_) (by decide)
            clear hK' K'
            refine run_op (vex_ixa (j := i) rfl rfl rfl (show i < 256 by omega) rfl rfl) rfl ?_
            refine run_set (vex_st1 (k' := i) rfl (Nat.zero_add _ |>.trans (Nat.mul_one _)) rfl rfl rfl rfl rfl (by intro a h; cases h) (by rw [bl_length]; omega)) rfl (by decide) rfl ?_
            refine run_end (z := false) fun K' hK' => hK' _ _ _ (hK _ _ _ ?_)
            clear hK' K' hK K
            refine vc_go (by kernel_rfl) fun K hK => hK _ _ _ ?_
            clear hK K
            refine vc_go (by kernel_rfl) fun K hK => hK _ _ _ ?_
            clear hK K
            exact ⟨256 - (i + 1), by omega, i + 1, rfl, by omega, isSt ⟨rfl, rfl, rfl, rfl, bb (by rw [cr_step, bx, by1, bc]; rfl), ii (wrapI (by omega) (by omega)), trivial⟩ ⟨rfl, rfl, rfl, blk32 hlt (pre_step (g := fun k => (x + y).testBit k) (by show _ = (x + y).testBit i; rw [sum_bit, bx, by1, bc]; rfl)), trivial⟩ rfl⟩
          · -- cond 3 t23 false
            refine vc_skip ?_
            refine vc_seq ?_
            refine vc_reg (by kernel_rfl) fun K hK => ?_
            refine run_n (z := false) 4 (fun K' hK' => hK' _ _ _ ?_) (by decide)
            clear hK' K'
            refine run_op (vex_ixa (j := i) rfl rfl rfl (show i < 256 by omega) rfl rfl) rfl ?_
            refine run_set (vex_st1 (k' := i) rfl (Nat.zero_add _ |>.trans (Nat.mul_one _)) rfl rfl rfl rfl rfl (by intro a h; cases h) (by rw [bl_length]; omega)) rfl (by decide) rfl ?_
            refine run_end (z := false) fun K' hK' => hK' _ _ _ (hK _ _ _ ?_)
            clear hK' K' hK K
            refine vc_go (by kernel_rfl) fun K hK => hK _ _ _ ?_
            clear hK K
            refine vc_go (by kernel_rfl) fun K hK => hK _ _ _ ?_
            clear hK K
            exact ⟨256 - (i + 1), by omega, i + 1, rfl, by omega, isSt ⟨rfl, rfl, rfl, rfl, bb (by rw [cr_step, bx, by1, bc]; rfl), ii (wrapI (by omega) (by omega)), trivial⟩ ⟨rfl, rfl, rfl, blk32 hlt (pre_step (g := fun k => (x + y).testBit k) (by show _ = (x + y).testBit i; rw [sum_bit, bx, by1, bc]; rfl)), trivial⟩ rfl⟩
        · -- cond 2 t20 false
          refine vc_skip ?_
          refine vc_seq ?_
          refine vc_seq ?_
          refine vc_go (by kernel_rfl) fun K hK => hK _ _ _ ?_
          clear hK K
          refine vc_cond rfl (fun bc => ?_) (fun bc => ?_)
          · -- cond 4 t23 true
            refine vc_go (by kernel_rfl) fun K hK => hK _ _ _ ?_
            clear hK K
            refine vc_seq ?_
            refine vc_reg (by kernel_rfl) fun K hK => ?_
            refine run_n (z := false) 4 (fun K' hK' => hK' _ _ _ ?_) (by decide)
            clear hK' K'
            refine run_op (vex_ixa (j := i) rfl rfl rfl (show i < 256 by omega) rfl rfl) rfl ?_
            refine run_set (vex_st1 (k' := i) rfl (Nat.zero_add _ |>.trans (Nat.mul_one _)) rfl rfl rfl rfl rfl (by intro a h; cases h) (by rw [bl_length]; omega)) rfl (by decide) rfl ?_
            refine run_end (z := false) fun K' hK' => hK' _ _ _ (hK _ _ _ ?_)
            clear hK' K' hK K
            refine vc_go (by kernel_rfl) fun K hK => hK _ _ _ ?_
            clear hK K
            refine vc_go (by kernel_rfl) fun K hK => hK _ _ _ ?_
            clear hK K
            exact ⟨256 - (i + 1), by omega, i + 1, rfl, by omega, isSt ⟨rfl, rfl, rfl, rfl, bb (by rw [cr_step, bx, by1, bc]; rfl), ii (wrapI (by omega) (by omega)), trivial⟩ ⟨rfl, rfl, rfl, blk32 hlt (pre_step (g := fun k => (x + y).testBit k) (by show _ = (x + y).testBit i; rw [sum_bit, bx, by1, bc]; rfl)), trivial⟩ rfl⟩
          · -- cond 4 t23 false
            refine vc_skip ?_
            refine vc_seq ?_
            refine vc_reg (by kernel_rfl) fun K hK => ?_
            refine run_n (z := false) 4 (fun K' hK' => hK' _ _ _ ?_) (by decide)
            clear hK' K'
            refine run_op (vex_ixa (j := i) rfl rfl rfl (show i < 256 by omega) rfl rfl) rfl ?_
            refine run_set (vex_st1 (k' := i) rfl (Nat.zero_add _ |>.trans (Nat.mul_one _)) rfl rfl rfl rfl rfl (by intro a h; cases h) (by rw [bl_length]; omega)) rfl (by decide) rfl ?_
            refine run_end (z := false) fun K' hK' => hK' _ _ _ (hK _ _ _ ?_)
            clear hK' K' hK K
            refine vc_go (by kernel_rfl) fun K hK => hK _ _ _ ?_
            clear hK K
            refine vc_go (by kernel_rfl) fun K hK => hK _ _ _ ?_
            clear hK K
            exact ⟨256 - (i + 1), by omega, i + 1, rfl, by omega, isSt ⟨rfl, rfl, rfl, rfl, bb (by rw [cr_step, bx, by1, bc]; rfl), ii (wrapI (by omega) (by omega)), trivial⟩ ⟨rfl, rfl, rfl, blk32 hlt (pre_step (g := fun k => (x + y).testBit k) (by show _ = (x + y).testBit i; rw [sum_bit, bx, by1, bc]; rfl)), trivial⟩ rfl⟩
      · -- cond 1 t15 false
        refine vc_skip ?_
        refine vc_seq ?_
        refine vc_seq ?_
        refine vc_reg (by kernel_rfl) fun K hK => ?_
        refine run_n (z := false) 1 (fun K' hK' => hK' _ _ _ ?_) (by decide)
        clear hK' K'
        refine run_op (vex_ixa (j := i) rfl rfl rfl (show i < 256 by omega) rfl rfl) rfl ?_
        refine run_rd (vex_ld1 (k' := i) rfl (Nat.zero_add _ |>.trans (Nat.mul_one _)) rfl rfl (bl_get _ (by omega))) rfl ?_
        refine run_end (z := false) fun K' hK' => hK' _ _ _ (hK _ _ _ ?_)
        clear hK' K' hK K
        refine vc_cond rfl (fun by1 => ?_) (fun by1 => ?_)
        · -- cond 5 t20 true
          refine vc_go (by kernel_rfl) fun K hK => hK _ _ _ ?_
          clear hK K
          refine vc_seq ?_
          refine vc_seq ?_
          refine vc_go (by kernel_rfl) fun K hK => hK _ _ _ ?_
          clear hK K
          refine vc_cond rfl (fun bc => ?_) (fun bc => ?_)
          · -- cond 6 t23 true
            refine vc_go (by kernel_rfl) fun K hK => hK _ _ _ ?_
            clear hK K
            refine vc_seq ?_
            refine vc_reg (by kernel_rfl) fun K hK => ?_
            refine run_n (z := false) 4 (fun K' hK' => hK' _ _ _ ?_) (by decide)
            clear hK' K'
            refine run_op (vex_ixa (j := i) rfl rfl rfl (show i < 256 by omega) rfl rfl) rfl ?_
            refine run_set (vex_st1 (k' := i) rfl (Nat.zero_add _ |>.trans (Nat.mul_one _)) rfl rfl rfl rfl rfl (by intro a h; cases h) (by rw [bl_length]; omega)) rfl (by decide) rfl ?_
            refine run_end (z := false) fun K' hK' => hK' _ _ _ (hK _ _ _ ?_)
            clear hK' K' hK K
            refine vc_go (by kernel_rfl) fun K hK => hK _ _ _ ?_
            clear hK K
            refine vc_go (by kernel_rfl) fun K hK => hK _ _ _ ?_
            clear hK K
            exact ⟨256 - (i + 1), by omega, i + 1, rfl, by omega, isSt ⟨rfl, rfl, rfl, rfl, bb (by rw [cr_step, bx, by1, bc]; rfl), ii (wrapI (by omega) (by omega)), trivial⟩ ⟨rfl, rfl, rfl, blk32 hlt (pre_step (g := fun k => (x + y).testBit k) (by show _ = (x + y).testBit i; rw [sum_bit, bx, by1, bc]; rfl)), trivial⟩ rfl⟩
          · -- cond 6 t23 false
            refine vc_skip ?_
            refine vc_seq ?_
            refine vc_reg (by kernel_rfl) fun K hK => ?_
            refine run_n (z := false) 4 (fun K' hK' => hK' _ _ _ ?_) (by decide)
            clear hK' K'
            refine run_op (vex_ixa (j := i) rfl rfl rfl (show i < 256 by omega) rfl rfl) rfl ?_
            refine run_set (vex_st1 (k' := i) rfl (Nat.zero_add _ |>.trans (Nat.mul_one _)) rfl rfl rfl rfl rfl (by intro a h; cases h) (by rw [bl_length]; omega)) rfl (by decide) rfl ?_
            refine run_end (z := false) fun K' hK' => hK' _ _ _ (hK _ _ _ ?_)
            clear hK' K' hK K
            refine vc_go (by kernel_rfl) fun K hK => hK _ _ _ ?_
            clear hK K
            refine vc_go (by kernel_rfl) fun K hK => hK _ _ _ ?_
            clear hK K
            exact ⟨256 - (i + 1), by omega, i + 1, rfl, by omega, isSt ⟨rfl, rfl, rfl, rfl, bb (by rw [cr_step, bx, by1, bc]; rfl), ii (wrapI (by omega) (by omega)), trivial⟩ ⟨rfl, rfl, rfl, blk32 hlt (pre_step (g := fun k => (x + y).testBit k) (by show _ = (x + y).testBit i; rw [sum_bit, bx, by1, bc]; rfl)), trivial⟩ rfl⟩
        · -- cond 5 t20 false
          refine vc_skip ?_
          refine vc_seq ?_
          refine vc_seq ?_
          refine vc_go (by kernel_rfl) fun K hK => hK _ _ _ ?_
          clear hK K
          refine vc_cond rfl (fun bc => ?_) (fun bc => ?_)
          · -- cond 7 t23 true
            refine vc_go (by kernel_rfl) fun K hK => hK _ _ _ ?_
            clear hK K
            refine vc_seq ?_
            refine vc_reg (by kernel_rfl) fun K hK => ?_
            refine run_n (z := false) 4 (fun K' hK' => hK' _ _ _ ?_) (by decide)
            clear hK' K'
            refine run_op (vex_ixa (j := i) rfl rfl rfl (show i < 256 by omega) rfl rfl) rfl ?_
            refine run_set (vex_st1 (k' := i) rfl (Nat.zero_add _ |>.trans (Nat.mul_one _)) rfl rfl rfl rfl rfl (by intro a h; cases h) (by rw [bl_length]; omega)) rfl (by decide) rfl ?_
            refine run_end (z := false) fun K' hK' => hK' _ _ _ (hK _ _ _ ?_)
            clear hK' K' hK K
            refine vc_go (by kernel_rfl) fun K hK => hK _ _ _ ?_
            clear hK K
            refine vc_go (by kernel_rfl) fun K hK => hK _ _ _ ?_
            clear hK K
            exact ⟨256 - (i + 1), by omega, i + 1, rfl, by omega, isSt ⟨rfl, rfl, rfl, rfl, bb (by rw [cr_step, bx, by1, bc]; rfl), ii (wrapI (by omega) (by omega)), trivial⟩ ⟨rfl, rfl, rfl, blk32 hlt (pre_step (g := fun k => (x + y).testBit k) (by show _ = (x + y).testBit i; rw [sum_bit, bx, by1, bc]; rfl)), trivial⟩ rfl⟩
          · -- cond 7 t23 false
            refine vc_skip ?_
            refine vc_seq ?_
            refine vc_reg (by kernel_rfl) fun K hK => ?_
            refine run_n (z := false) 4 (fun K' hK' => hK' _ _ _ ?_) (by decide)
            clear hK' K'
            refine run_op (vex_ixa (j := i) rfl rfl rfl (show i < 256 by omega) rfl rfl) rfl ?_
            refine run_set (vex_st1 (k' := i) rfl (Nat.zero_add _ |>.trans (Nat.mul_one _)) rfl rfl rfl rfl rfl (by intro a h; cases h) (by rw [bl_length]; omega)) rfl (by decide) rfl ?_
            refine run_end (z := false) fun K' hK' => hK' _ _ _ (hK _ _ _ ?_)
            clear hK' K' hK K
            refine vc_go (by kernel_rfl) fun K hK => hK _ _ _ ?_
            clear hK K
            refine vc_go (by kernel_rfl) fun K hK => hK _ _ _ ?_
            clear hK K
            exact ⟨256 - (i + 1), by omega, i + 1, rfl, by omega, isSt ⟨rfl, rfl, rfl, rfl, bb (by rw [cr_step, bx, by1, bc]; rfl), ii (wrapI (by omega) (by omega)), trivial⟩ ⟨rfl, rfl, rfl, blk32 hlt (pre_step (g := fun k => (x + y).testBit k) (by show _ = (x + y).testBit i; rw [sum_bit, bx, by1, bc]; rfl)), trivial⟩ rfl⟩
    · -- cond 0 t10 false
      refine vc_exit ?_
      refine vc_seq ?_
      refine vc_reg (by kernel_rfl) fun K hK => ?_
      refine run_rd (vex_ld32 rfl rfl) rfl ?_
      refine run_set (vex_st32 rfl rfl bits0_length rfl) rfl (by decide) rfl ?_
      refine run_end (z := false) fun K' hK' => hK' _ _ _ (hK _ _ _ ?_)
      clear hK' K' hK K
      refine vc_ret ⟨.inr rfl, ?_⟩
      have hi64 : i = 256 := by
        simp only [decide_eq_false_iff_not] at c0
        omega
      subst hi64
      change vresult _ [.cell 4 32] = _
      rw [vresult_one]
      refine Eq.trans (vres_32 (m := 2) (f := fun k => decide (k < 256) && (x + y).testBit k) rfl rfl) ?_
      rw [b8_of fun k hk => (pre_end (g := fun k => (x + y).testBit k) k hk).trans (mod_bits _ k hk).symm]

theorem p37 {x y : Nat} (hxy : y ≤ x) : Pure 37 [b8 x, b8 y] (b8 (x - y)) := by
  refine pure_of Try.func37 rfl Try.ntmps37 (by kernel_rfl) (by simp [plainL, plain_b8]) (by simp) (plain_b8 _) ?_
  refine vc_seq ?_
  refine vc_go (by kernel_rfl) fun K hK => hK _ _ _ ?_
  clear hK K
  refine vc_seq ?_
  refine vc_go (by kernel_rfl) fun K hK => hK _ _ _ ?_
  clear hK K
  refine vc_seq ?_
  refine vc_go (by kernel_rfl) fun K hK => hK _ _ _ ?_
  clear hK K
  refine vc_seq ?_
  refine vc_seq ?_
  refine vc_go (by kernel_rfl) fun K hK => hK _ _ _ ?_
  clear hK K
  refine vc_block ?_
  refine vc_loop (fun n s => ∃ i : Nat, n = 256 - i ∧ i ≤ 256 ∧ IsSt [(2, pt 0), (3, pt 1), (4, pt 2), (5, pt 3), (6, .bool (bo x y i)), (7, .int .i64 (i : Nat))] [(0, .cells (bl (fun k => x.testBit k)) 32 true), (1, .cells (bl (fun k => y.testBit k)) 32 true), (2, .cells bits0 32 true), (3, .cells (bl (fun k => decide (k < i) && (x - y).testBit k)) 32 true)] 4 s) 256 ?_ ?_
  · exact ⟨0, rfl, by decide, isSt ⟨rfl, rfl, rfl, rfl, bb (bo_zero x y).symm, rfl, trivial⟩ ⟨rfl, rfl, rfl, blk0 (pre_zero (g := fun k => (x - y).testBit k)), trivial⟩ rfl⟩
  · rintro n s ⟨i, hn, hi, t, h, rfl⟩
    refine vc_seq ?_
    refine vc_seq ?_
    refine vc_go (by kernel_rfl) fun K hK => hK _ _ _ ?_
    clear hK K
    refine vc_cond rfl (fun c0 => ?_) (fun c0 => ?_)
    · -- cond 0 t10 true
      refine vc_skip ?_
      refine vc_seq ?_
      refine vc_block ?_
      refine vc_seq ?_
      have hlt : i < 256 := by
        simp only [decide_eq_true_eq] at c0
        omega
      refine vc_go (by kernel_rfl) fun K hK => hK _ _ _ ?_
      clear hK K
      refine vc_seq ?_
      refine vc_seq ?_
      refine vc_reg (by kernel_rfl) fun K hK => ?_
      refine run_n (z := false) 1 (fun K' hK' => hK' _ _ _ ?_) (by decide)
      clear hK' K'
      refine run_op (vex_ixa (j := i) rfl rfl rfl (show i < 256 by omega) rfl rfl) rfl ?_
      refine run_rd (vex_ld1 (k' := i) rfl (Nat.zero_add _ |>.trans (Nat.mul_one _)) rfl rfl (bl_get _ (by omega))) rfl ?_
      refine run_end (z := false) fun K' hK' => hK' _ _ _ (hK _ _ _ ?_)
      clear hK' K' hK K
      refine vc_cond rfl (fun bx => ?_) (fun bx => ?_)
      · -- cond 1 t15 true
        refine vc_go (by kernel_rfl) fun K hK => hK _ _ _ ?_
        clear hK K
        refine vc_seq ?_
        refine vc_seq ?_
        refine vc_reg (by kernel_rfl) fun K hK => ?_
        refine run_n (z := false) 1 (fun K' hK' => hK' _ _ _ ?_) (by decide)
        clear hK' K'
        refine run_op (vex_ixa (j := i) rfl rfl rfl (show i < 256 by omega) rfl rfl) rfl ?_
        refine run_rd (vex_ld1 (k' := i) rfl (Nat.zero_add _ |>.trans (Nat.mul_one _)) rfl rfl (bl_get _ (by omega))) rfl ?_
        refine run_end (z := false) fun K' hK' => hK' _ _ _ (hK _ _ _ ?_)
        clear hK' K' hK K
        refine vc_cond rfl (fun by1 => ?_) (fun by1 => ?_)
        · -- cond 2 t20 true
          refine vc_go (by kernel_rfl) fun K hK => hK _ _ _ ?_
          clear hK K
          refine vc_seq ?_
          refine vc_seq ?_
          refine vc_go (by kernel_rfl) fun K hK => hK _ _ _ ?_
          clear hK K
          refine vc_cond rfl (fun bc => ?_) (fun bc => ?_)
          · -- cond 3 t23 true
            refine vc_go (by kernel_rfl) fun K hK => hK _ _ _ ?_
            clear hK K
            refine vc_seq ?_
            refine vc_reg (by kernel_rfl) fun K hK => ?_
            refine run_n (z := false) 7 (fun K' hK' => hK' _ _ _ ?_) (by decide)
            clear hK' K'
            refine run_op (vex_ixa (j := i) rfl rfl rfl (show i < 256 by omega) rfl rfl) rfl ?_
            refine run_set (vex_st1 (k' := i) rfl (Nat.zero_add _ |>.trans (Nat.mul_one _)) rfl rfl rfl rfl rfl (by intro a h; cases h) (by rw [bl_length]; omega)) rfl (by decide) rfl ?_
            refine run_end (z := false) fun K' hK' => hK' _ _ _ (hK _ _ _ ?_)
            clear hK' K' hK K
            refine vc_go (by kernel_rfl) fun K hK => hK _ _ _ ?_
            clear hK K
            refine vc_go (by kernel_rfl) fun K hK => hK _ _ _ ?_
            clear hK K
            exact ⟨256 - (i + 1), by omega, i + 1, rfl, by omega, isSt ⟨rfl, rfl, rfl, rfl, bb (by rw [bo_step, bx, by1, bc]; rfl), ii (wrapI (by omega) (by omega)), trivial⟩ ⟨rfl, rfl, rfl, blk32 hlt (pre_step (g := fun k => (x - y).testBit k) (by show _ = (x - y).testBit i; rw [take_bit hxy, bx, by1, bc]; rfl)), trivial⟩ rfl⟩
          · -- cond 3 t23 false
            refine vc_skip ?_
            refine vc_seq ?_
            refine vc_reg (by kernel_rfl) fun K hK => ?_
            refine run_n (z := false) 7 (fun K' hK' => hK' _ _ _ ?_) (by decide)
            clear hK' K'
            refine run_op (vex_ixa (j := i) rfl rfl rfl (show i < 256 by omega) rfl rfl) rfl ?_
            refine run_set (vex_st1 (k' := i) rfl (Nat.zero_add _ |>.trans (Nat.mul_one _)) rfl rfl rfl rfl rfl (by intro a h; cases h) (by rw [bl_length]; omega)) rfl (by decide) rfl ?_
            refine run_end (z := false) fun K' hK' => hK' _ _ _ (hK _ _ _ ?_)
            clear hK' K' hK K
            refine vc_go (by kernel_rfl) fun K hK => hK _ _ _ ?_
            clear hK K
            refine vc_go (by kernel_rfl) fun K hK => hK _ _ _ ?_
            clear hK K
            exact ⟨256 - (i + 1), by omega, i + 1, rfl, by omega, isSt ⟨rfl, rfl, rfl, rfl, bb (by rw [bo_step, bx, by1, bc]; rfl), ii (wrapI (by omega) (by omega)), trivial⟩ ⟨rfl, rfl, rfl, blk32 hlt (pre_step (g := fun k => (x - y).testBit k) (by show _ = (x - y).testBit i; rw [take_bit hxy, bx, by1, bc]; rfl)), trivial⟩ rfl⟩
        · -- cond 2 t20 false
          refine vc_skip ?_
          refine vc_seq ?_
          refine vc_seq ?_
          refine vc_go (by kernel_rfl) fun K hK => hK _ _ _ ?_
          clear hK K
          refine vc_cond rfl (fun bc => ?_) (fun bc => ?_)
          · -- cond 4 t23 true
            refine vc_go (by kernel_rfl) fun K hK => hK _ _ _ ?_
            clear hK K
            refine vc_seq ?_
            refine vc_reg (by kernel_rfl) fun K hK => ?_
            refine run_n (z := false) 7 (fun K' hK' => hK' _ _ _ ?_) (by decide)
            clear hK' K'
            refine run_op (vex_ixa (j := i) rfl rfl rfl (show i < 256 by omega) rfl rfl) rfl ?_
            refine run_set (vex_st1 (k' := i) rfl (Nat.zero_add _ |>.trans (Nat.mul_one _)) rfl rfl rfl rfl rfl (by intro a h; cases h) (by rw [bl_length]; omega)) rfl (by decide) rfl ?_
            refine run_end (z := false) fun K' hK' => hK' _ _ _ (hK _ _ _ ?_)
            clear hK' K' hK K
            refine vc_go (by kernel_rfl) fun K hK => hK _ _ _ ?_
            clear hK K
            refine vc_go (by kernel_rfl) fun K hK => hK _ _ _ ?_
            clear hK K
            exact ⟨256 - (i + 1), by omega, i + 1, rfl, by omega, isSt ⟨rfl, rfl, rfl, rfl, bb (by rw [bo_step, bx, by1, bc]; rfl), ii (wrapI (by omega) (by omega)), trivial⟩ ⟨rfl, rfl, rfl, blk32 hlt (pre_step (g := fun k => (x - y).testBit k) (by show _ = (x - y).testBit i; rw [take_bit hxy, bx, by1, bc]; rfl)), trivial⟩ rfl⟩
          · -- cond 4 t23 false
            refine vc_skip ?_
            refine vc_seq ?_
            refine vc_reg (by kernel_rfl) fun K hK => ?_
            refine run_n (z := false) 7 (fun K' hK' => hK' _ _ _ ?_) (by decide)
            clear hK' K'
            refine run_op (vex_ixa (j := i) rfl rfl rfl (show i < 256 by omega) rfl rfl) rfl ?_
            refine run_set (vex_st1 (k' := i) rfl (Nat.zero_add _ |>.trans (Nat.mul_one _)) rfl rfl rfl rfl rfl (by intro a h; cases h) (by rw [bl_length]; omega)) rfl (by decide) rfl ?_
            refine run_end (z := false) fun K' hK' => hK' _ _ _ (hK _ _ _ ?_)
            clear hK' K' hK K
            refine vc_go (by kernel_rfl) fun K hK => hK _ _ _ ?_
            clear hK K
            refine vc_go (by kernel_rfl) fun K hK => hK _ _ _ ?_
            clear hK K
            exact ⟨256 - (i + 1), by omega, i + 1, rfl, by omega, isSt ⟨rfl, rfl, rfl, rfl, bb (by rw [bo_step, bx, by1, bc]; rfl), ii (wrapI (by omega) (by omega)), trivial⟩ ⟨rfl, rfl, rfl, blk32 hlt (pre_step (g := fun k => (x - y).testBit k) (by show _ = (x - y).testBit i; rw [take_bit hxy, bx, by1, bc]; rfl)), trivial⟩ rfl⟩
      · -- cond 1 t15 false
        refine vc_skip ?_
        refine vc_seq ?_
        refine vc_seq ?_
        refine vc_reg (by kernel_rfl) fun K hK => ?_
        refine run_n (z := false) 1 (fun K' hK' => hK' _ _ _ ?_) (by decide)
        clear hK' K'
        refine run_op (vex_ixa (j := i) rfl rfl rfl (show i < 256 by omega) rfl rfl) rfl ?_
        refine run_rd (vex_ld1 (k' := i) rfl (Nat.zero_add _ |>.trans (Nat.mul_one _)) rfl rfl (bl_get _ (by omega))) rfl ?_
        refine run_end (z := false) fun K' hK' => hK' _ _ _ (hK _ _ _ ?_)
        clear hK' K' hK K
        refine vc_cond rfl (fun by1 => ?_) (fun by1 => ?_)
        · -- cond 5 t20 true
          refine vc_go (by kernel_rfl) fun K hK => hK _ _ _ ?_
          clear hK K
          refine vc_seq ?_
          refine vc_seq ?_
          refine vc_go (by kernel_rfl) fun K hK => hK _ _ _ ?_
          clear hK K
          refine vc_cond rfl (fun bc => ?_) (fun bc => ?_)
          · -- cond 6 t23 true
            refine vc_go (by kernel_rfl) fun K hK => hK _ _ _ ?_
            clear hK K
            refine vc_seq ?_
            refine vc_reg (by kernel_rfl) fun K hK => ?_
            refine run_n (z := false) 7 (fun K' hK' => hK' _ _ _ ?_) (by decide)
            clear hK' K'
            refine run_op (vex_ixa (j := i) rfl rfl rfl (show i < 256 by omega) rfl rfl) rfl ?_
            refine run_set (vex_st1 (k' := i) rfl (Nat.zero_add _ |>.trans (Nat.mul_one _)) rfl rfl rfl rfl rfl (by intro a h; cases h) (by rw [bl_length]; omega)) rfl (by decide) rfl ?_
            refine run_end (z := false) fun K' hK' => hK' _ _ _ (hK _ _ _ ?_)
            clear hK' K' hK K
            refine vc_go (by kernel_rfl) fun K hK => hK _ _ _ ?_
            clear hK K
            refine vc_go (by kernel_rfl) fun K hK => hK _ _ _ ?_
            clear hK K
            exact ⟨256 - (i + 1), by omega, i + 1, rfl, by omega, isSt ⟨rfl, rfl, rfl, rfl, bb (by rw [bo_step, bx, by1, bc]; rfl), ii (wrapI (by omega) (by omega)), trivial⟩ ⟨rfl, rfl, rfl, blk32 hlt (pre_step (g := fun k => (x - y).testBit k) (by show _ = (x - y).testBit i; rw [take_bit hxy, bx, by1, bc]; rfl)), trivial⟩ rfl⟩
          · -- cond 6 t23 false
            refine vc_skip ?_
            refine vc_seq ?_
            refine vc_reg (by kernel_rfl) fun K hK => ?_
            refine run_n (z := false) 7 (fun K' hK' => hK' _ _ _ ?_) (by decide)
            clear hK' K'
            refine run_op (vex_ixa (j := i) rfl rfl rfl (show i < 256 by omega) rfl rfl) rfl ?_
            refine run_set (vex_st1 (k' := i) rfl (Nat.zero_add _ |>.trans (Nat.mul_one _)) rfl rfl rfl rfl rfl (by intro a h; cases h) (by rw [bl_length]; omega)) rfl (by decide) rfl ?_
            refine run_end (z := false) fun K' hK' => hK' _ _ _ (hK _ _ _ ?_)
            clear hK' K' hK K
            refine vc_go (by kernel_rfl) fun K hK => hK _ _ _ ?_
            clear hK K
            refine vc_go (by kernel_rfl) fun K hK => hK _ _ _ ?_
            clear hK K
            exact ⟨256 - (i + 1), by omega, i + 1, rfl, by omega, isSt ⟨rfl, rfl, rfl, rfl, bb (by rw [bo_step, bx, by1, bc]; rfl), ii (wrapI (by omega) (by omega)), trivial⟩ ⟨rfl, rfl, rfl, blk32 hlt (pre_step (g := fun k => (x - y).testBit k) (by show _ = (x - y).testBit i; rw [take_bit hxy, bx, by1, bc]; rfl)), trivial⟩ rfl⟩
        · -- cond 5 t20 false
          refine vc_skip ?_
          refine vc_seq ?_
          refine vc_seq ?_
          refine vc_go (by kernel_rfl) fun K hK => hK _ _ _ ?_
          clear hK K
          refine vc_cond rfl (fun bc => ?_) (fun bc => ?_)
          · -- cond 7 t23 true
            refine vc_go (by kernel_rfl) fun K hK => hK _ _ _ ?_
            clear hK K
            refine vc_seq ?_
            refine vc_reg (by kernel_rfl) fun K hK => ?_
            refine run_n (z := false) 7 (fun K' hK' => hK' _ _ _ ?_) (by decide)
            clear hK' K'
            refine run_op (vex_ixa (j := i) rfl rfl rfl (show i < 256 by omega) rfl rfl) rfl ?_
            refine run_set (vex_st1 (k' := i) rfl (Nat.zero_add _ |>.trans (Nat.mul_one _)) rfl rfl rfl rfl rfl (by intro a h; cases h) (by rw [bl_length]; omega)) rfl (by decide) rfl ?_
            refine run_end (z := false) fun K' hK' => hK' _ _ _ (hK _ _ _ ?_)
            clear hK' K' hK K
            refine vc_go (by kernel_rfl) fun K hK => hK _ _ _ ?_
            clear hK K
            refine vc_go (by kernel_rfl) fun K hK => hK _ _ _ ?_
            clear hK K
            exact ⟨256 - (i + 1), by omega, i + 1, rfl, by omega, isSt ⟨rfl, rfl, rfl, rfl, bb (by rw [bo_step, bx, by1, bc]; rfl), ii (wrapI (by omega) (by omega)), trivial⟩ ⟨rfl, rfl, rfl, blk32 hlt (pre_step (g := fun k => (x - y).testBit k) (by show _ = (x - y).testBit i; rw [take_bit hxy, bx, by1, bc]; rfl)), trivial⟩ rfl⟩
          · -- cond 7 t23 false
            refine vc_skip ?_
            refine vc_seq ?_
            refine vc_reg (by kernel_rfl) fun K hK => ?_
            refine run_n (z := false) 7 (fun K' hK' => hK' _ _ _ ?_) (by decide)
            clear hK' K'
            refine run_op (vex_ixa (j := i) rfl rfl rfl (show i < 256 by omega) rfl rfl) rfl ?_
            refine run_set (vex_st1 (k' := i) rfl (Nat.zero_add _ |>.trans (Nat.mul_one _)) rfl rfl rfl rfl rfl (by intro a h; cases h) (by rw [bl_length]; omega)) rfl (by decide) rfl ?_
            refine run_end (z := false) fun K' hK' => hK' _ _ _ (hK _ _ _ ?_)
            clear hK' K' hK K
            refine vc_go (by kernel_rfl) fun K hK => hK _ _ _ ?_
            clear hK K
            refine vc_go (by kernel_rfl) fun K hK => hK _ _ _ ?_
            clear hK K
            exact ⟨256 - (i + 1), by omega, i + 1, rfl, by omega, isSt ⟨rfl, rfl, rfl, rfl, bb (by rw [bo_step, bx, by1, bc]; rfl), ii (wrapI (by omega) (by omega)), trivial⟩ ⟨rfl, rfl, rfl, blk32 hlt (pre_step (g := fun k => (x - y).testBit k) (by show _ = (x - y).testBit i; rw [take_bit hxy, bx, by1, bc]; rfl)), trivial⟩ rfl⟩
    · -- cond 0 t10 false
      refine vc_exit ?_
      refine vc_seq ?_
      refine vc_reg (by kernel_rfl) fun K hK => ?_
      refine run_rd (vex_ld32 rfl rfl) rfl ?_
      refine run_set (vex_st32 rfl rfl bits0_length rfl) rfl (by decide) rfl ?_
      refine run_end (z := false) fun K' hK' => hK' _ _ _ (hK _ _ _ ?_)
      clear hK' K' hK K
      refine vc_ret ⟨.inr rfl, ?_⟩
      have hi64 : i = 256 := by
        simp only [decide_eq_false_iff_not] at c0
        omega
      subst hi64
      change vresult _ [.cell 4 32] = _
      rw [vresult_one]
      refine Eq.trans (vres_32 (m := 2) (f := fun k => decide (k < 256) && (x - y).testBit k) rfl rfl) ?_
      rw [b8_of fun k hk => (pre_end (g := fun k => (x - y).testBit k) k hk)]

theorem num_step {v i : Nat} (hi : i < 128) : v % 2 ^ 128 / 2 ^ i = 2 * (v % 2 ^ 128 / 2 ^ (i + 1)) + (v.testBit i).toNat := by
  rw [half, Nat.testBit_mod_two_pow, decide_eq_true hi]; rfl
theorem num_lt {v i : Nat} : v % 2 ^ 128 / 2 ^ (i + 1) < 2 ^ 127 := by
  have h : v % 2 ^ 128 < 2 ^ 128 := Nat.mod_lt _ (by decide)
  have h1 : 2 ^ 1 ≤ 2 ^ (i + 1) := Nat.pow_le_pow_right (by decide) (by omega)
  exact Nat.lt_of_le_of_lt (Nat.div_le_div_left h1 (by decide)) (by omega)
theorem num_hi {w w' b : Nat} (hw : w < 2 ^ 127) (h : w' = 2 * w + b) (hb : b < 2) : IntKind.u64.wrap (IntKind.u64.wrap (((w / 2 ^ 64 : Nat) : Int) * 2) + (((w % 2 ^ 64 : Nat) : Int)).fdiv (2 ^ (min (63 : Int).toNat IntKind.u64.bits))) = ((w' / 2 ^ 64 : Nat) : Int) := by
  have e := shr_nat (w % 2 ^ 64) 63 (by decide)
  rw [show ((63 : Nat) : Int) = 63 from rfl] at e
  rw [e, wrap64, wrap64]
  omega
theorem num_lo1 {w w' : Nat} (hw : w < 2 ^ 127) (h : w' = 2 * w + true.toNat) : IntKind.u64.wrap (IntKind.u64.wrap (((w % 2 ^ 64 : Nat) : Int) * 2) + 1) = ((w' % 2 ^ 64 : Nat) : Int) := by
  rw [show true.toNat = 1 from rfl] at h
  rw [wrap64, wrap64]
  omega
theorem num_lo0 {w w' : Nat} (hw : w < 2 ^ 127) (h : w' = 2 * w + false.toNat) : IntKind.u64.wrap (((w % 2 ^ 64 : Nat) : Int) * 2) = ((w' % 2 ^ 64 : Nat) : Int) := by
  rw [show false.toNat = 0 from rfl] at h
  rw [wrap64]
  omega
theorem p26 {v : Nat} (hv : v < 2 ^ 256) : Pure 26 [b8 v] (.tuple #[wd (v % 2 ^ 128), .bool (decide (v < 2 ^ 128))]) := by
  refine pure_of Try.func26 rfl Try.ntmps26 (by kernel_rfl) (by simp [plainL, plain_b8]) (by simp) rfl ?_
  refine vc_seq ?_
  refine vc_go (by kernel_rfl) fun K hK => hK _ _ _ ?_
  clear hK K
  refine vc_seq ?_
  refine vc_go (by kernel_rfl) fun K hK => hK _ _ _ ?_
  clear hK K
  refine vc_seq ?_
  refine vc_seq ?_
  refine vc_go (by kernel_rfl) fun K hK => hK _ _ _ ?_
  clear hK K
  refine vc_block ?_
  refine vc_loop (fun n s => ∃ a : Nat, n = a ∧ a ≤ 128 ∧ IsSt [(1, pt 0), (2, pt 1), (3, .bool false), (4, pt 2), (5, .int .i64 ((a : Int) - 1))] [(0, .cells (bl (fun k => v.testBit k)) 32 true), (1, .cells [.int .u64 0, .int .u64 0] 24 true), (2, .cells [u64 ((v % 2 ^ 128 / 2 ^ a) / 2 ^ 64), u64 ((v % 2 ^ 128 / 2 ^ a) % 2 ^ 64)] 24 true)] 3 s) 128 ?_ ?_
  · exact ⟨128, rfl, by decide, isSt ⟨rfl, rfl, rfl, rfl, rfl, trivial⟩ ⟨rfl, rfl, blk24 (X := v % 2 ^ 128 / 2 ^ 128 / 2 ^ 64) (Y := v % 2 ^ 128 / 2 ^ 128 % 2 ^ 64) (by omega) (by omega), trivial⟩ rfl⟩
  · rintro n s ⟨a, hn, ha, t, h, rfl⟩
    refine vc_seq ?_
    refine vc_seq ?_
    refine vc_go (by kernel_rfl) fun K hK => hK _ _ _ ?_
    clear hK K
    refine vc_cond rfl (fun c0 => ?_) (fun c0 => ?_)
    · -- cond 0 t8 true
      refine vc_skip ?_
      refine vc_seq ?_
      refine vc_block ?_
      refine vc_seq ?_
      have h0 : 0 < a := by
        simp only [decide_eq_true_eq] at c0
        omega
      obtain ⟨i, rfl⟩ : ∃ i, a = i + 1 := ⟨a - 1, by omega⟩
      refine refocus [(1, pt 0), (2, pt 1), (3, .bool false), (4, pt 2), (5, .int .i64 ((i : Nat)))] [(0, .cells (bl (fun k => v.testBit k)) 32 true), (1, .cells [.int .u64 0, .int .u64 0] 24 true), (2, .cells [u64 ((v % 2 ^ 128 / 2 ^ (i + 1)) / 2 ^ 64), u64 ((v % 2 ^ 128 / 2 ^ (i + 1)) % 2 ^ 64)] 24 true)] 3 ⟨rfl, rfl, rfl, rfl, ii (by omega), trivial⟩ ⟨rfl, rfl, rfl, trivial⟩ rfl fun t h => ?_
      have hstep := num_step (v := v) (i := i) (by omega)
      have hlt := num_lt (v := v) (i := i)
      refine vc_go (by kernel_rfl) fun K hK => hK _ _ _ ?_
      clear hK K
      refine vc_seq ?_
      refine vc_go (by kernel_rfl) fun K hK => hK _ _ _ ?_
      clear hK K
      refine vc_seq ?_
      refine vc_reg (by kernel_rfl) fun K hK => ?_
      refine run_n (z := false) 1 (fun K' hK' => hK' _ _ _ ?_) (by decide)
      clear hK' K'
      refine run_op (vex_ixa (j := i) rfl rfl rfl (show i < 256 by omega) rfl rfl) rfl ?_
      refine run_rd (vex_ld1 (k' := i) rfl (Nat.zero_add _ |>.trans (Nat.mul_one _)) rfl rfl (bl_get _ (by omega))) rfl ?_
      refine run_end (z := false) fun K' hK' => hK' _ _ _ (hK _ _ _ ?_)
      clear hK' K' hK K
      refine vc_cond rfl (fun bv => ?_) (fun bv => ?_)
      · -- cond 1 t25 true
        refine vc_go (by kernel_rfl) fun K hK => hK _ _ _ ?_
        clear hK K
        refine vc_go (by kernel_rfl) fun K hK => hK _ _ _ ?_
        clear hK K
        rw [bv] at hstep
        exact ⟨i, by omega, i, rfl, by omega, isSt ⟨rfl, rfl, rfl, rfl, ii (wrapI (by omega) (by omega)), trivial⟩ ⟨rfl, rfl, blk24 (num_hi hlt hstep (by decide)) (num_lo1 hlt hstep), trivial⟩ rfl⟩
      · -- cond 1 t25 false
        refine vc_skip ?_
        refine vc_go (by kernel_rfl) fun K hK => hK _ _ _ ?_
        clear hK K
        rw [bv] at hstep
        exact ⟨i, by omega, i, rfl, by omega, isSt ⟨rfl, rfl, rfl, rfl, ii (wrapI (by omega) (by omega)), trivial⟩ ⟨rfl, rfl, blk24 (num_hi hlt hstep (by decide)) (num_lo0 hlt hstep), trivial⟩ rfl⟩
    · -- cond 0 t8 false
      refine vc_exit ?_
      refine vc_seq ?_
      refine vc_seq ?_
      have ha0 : a = 0 := by
        simp only [decide_eq_false_iff_not] at c0
        omega
      subst ha0
      refine refocus [(1, pt 0), (2, pt 1), (3, .bool false), (4, pt 2), (5, .int .i64 (((0 : Nat) : Int) - 1))] [(0, .cells (bl (fun k => v.testBit k)) 32 true), (1, .cells [.int .u64 0, .int .u64 0] 24 true), (2, .cells [u64 ((v % 2 ^ 128) / 2 ^ 64), u64 ((v % 2 ^ 128) % 2 ^ 64)] 24 true)] 3 ⟨rfl, rfl, rfl, rfl, rfl, trivial⟩ ⟨rfl, rfl, by rw [Nat.pow_zero, Nat.div_one]; rfl, trivial⟩ rfl fun t h => ?_
      refine vc_go (by kernel_rfl) fun K hK => hK _ _ _ ?_
      clear hK K
      refine vc_block ?_
      refine vc_loop (fun n s => ∃ i : Nat, n = 256 - i ∧ 128 ≤ i ∧ i ≤ 256 ∧ (∀ k, 128 ≤ k → k < i → v.testBit k = false) ∧ IsSt [(1, pt 0), (2, pt 1), (3, .bool false), (4, pt 2), (6, .int .i64 (i : Nat))] [(0, .cells (bl (fun k => v.testBit k)) 32 true), (1, .cells [.int .u64 0, .int .u64 0] 24 true), (2, .cells [u64 ((v % 2 ^ 128) / 2 ^ 64), u64 ((v % 2 ^ 128) % 2 ^ 64)] 24 true)] 3 s) 128 ?_ ?_
      · exact ⟨128, rfl, by decide, by decide, fun k h1 h2 => by omega, isSt ⟨rfl, rfl, rfl, rfl, rfl, trivial⟩ ⟨rfl, rfl, rfl, trivial⟩ rfl⟩
      · clear hn ha
        rintro n s ⟨i, hn, h128, hi, hz, t, h, rfl⟩
        refine vc_seq ?_
        refine vc_seq ?_
        refine vc_go (by kernel_rfl) fun K hK => hK _ _ _ ?_
        clear hK K
        refine vc_cond rfl (fun c2 => ?_) (fun c2 => ?_)
        · -- cond 2 t31 true
          refine vc_skip ?_
          refine vc_seq ?_
          refine vc_block ?_
          refine vc_seq ?_
          have hlt : i < 256 := by
            simp only [decide_eq_true_eq] at c2
            omega
          refine vc_reg (by kernel_rfl) fun K hK => ?_
          refine run_n (z := false) 1 (fun K' hK' => hK' _ _ _ ?_) (by decide)
          clear hK' K'
          refine run_op (vex_ixa (j := i) rfl rfl rfl (show i < 256 by omega) rfl rfl) rfl ?_
          refine run_rd (vex_ld1 (k' := i) rfl (Nat.zero_add _ |>.trans (Nat.mul_one _)) rfl rfl (bl_get _ (by omega))) rfl ?_
          refine run_end (z := false) fun K' hK' => hK' _ _ _ (hK _ _ _ ?_)
          clear hK' K' hK K
          refine vc_cond rfl (fun bh => ?_) (fun bh => ?_)
          · -- cond 3 t36 true
            refine vc_seq ?_
            refine vc_go (by kernel_rfl) fun K hK => hK _ _ _ ?_
            clear hK K
            refine vc_ret ⟨.inr rfl, ?_⟩
            rw [decide_eq_false (Nat.not_lt.2 (bit_ge bh h128))]
            rfl
          · -- cond 3 t36 false
            refine vc_skip ?_
            refine vc_go (by kernel_rfl) fun K hK => hK _ _ _ ?_
            clear hK K
            exact ⟨256 - (i + 1), by omega, i + 1, rfl, by omega, by omega, fun k h1 h2 => by
                by_cases e : k = i
                · rw [e]; exact bh
                · exact hz k h1 (by omega), isSt ⟨rfl, rfl, rfl, rfl, ii (wrapI (by omega) (by omega)), trivial⟩ ⟨rfl, rfl, rfl, trivial⟩ rfl⟩
        · -- cond 2 t31 false
          refine vc_exit ?_
          refine vc_seq ?_
          refine vc_go (by kernel_rfl) fun K hK => hK _ _ _ ?_
          clear hK K
          refine vc_ret ⟨.inr rfl, ?_⟩
          have hi6 : i = 256 := by
            simp only [decide_eq_false_iff_not] at c2
            omega
          subst hi6
          rw [decide_eq_true (bits_lt hv hz)]
          rfl
end Go.Proofs.Ytdfkcijholopoaa.Vm
namespace Go.Proofs.Ytdfkcijholopoaa.Vm
open Go Go.RowKit
set_option maxRecDepth 10000
set_option linter.unusedSimpArgs false
set_option linter.unusedVariables false

theorem bkb {v w m : Nat} (h : v = w) : some (Blk.cells (bl fun k => v.testBit k) m true) = some (.cells (bl fun k => w.testBit k) m true) := by rw [h]
theorem bkz {m : Nat} : some (Blk.cells bits0 m true) = some (.cells (bl fun k => (0 : Nat).testBit k) m true) := blk0 fun k _ => Nat.zero_testBit k
theorem prod_one {a m i : Nat} (h : m.testBit i = true) : (2 * (a * (m / 2 ^ (i + 1)) % 2 ^ 256) % 2 ^ 256 + a) % 2 ^ 256 = a * (m / 2 ^ i) % 2 ^ 256 := by
  have e : a * (m / 2 ^ i) = 2 * (a * (m / 2 ^ (i + 1))) + a := by
    rw [half, h, Nat.mul_add, Nat.mul_left_comm, Bool.toNat_true, Nat.mul_one]
  rw [e]
  generalize a * (m / 2 ^ (i + 1)) = z
  omega
theorem prod_nil {a m i : Nat} (h : m.testBit i = false) : 2 * (a * (m / 2 ^ (i + 1)) % 2 ^ 256) % 2 ^ 256 = a * (m / 2 ^ i) % 2 ^ 256 := by
  have e : a * (m / 2 ^ i) = 2 * (a * (m / 2 ^ (i + 1))) := by
    rw [half, h, Nat.mul_add, Nat.mul_left_comm]
    rfl
  rw [e]
  generalize a * (m / 2 ^ (i + 1)) = z
  omega
theorem bp_bit (v i : Nat) : (v.testBit i).toNat = bp v i := by
  rw [tb, bp]
  have h : v / 2 ^ i % 2 = 0 ∨ v / 2 ^ i % 2 = 1 := by omega
  rcases h with h | h <;> rw [h] <;> rfl
theorem low_bit {R k : Nat} (b : Bool) (hR : 2 * R < 2 ^ 256) (_ : k < 256) : (if k = 0 then b else (2 * R % 2 ^ 256).testBit k) = (2 * R + b.toNat).testBit k := by
  rw [Nat.mod_eq_of_lt hR]
  cases k with
  | zero =>
    rw [if_pos rfl, tb, Nat.pow_zero, Nat.div_one]
    cases b
    · rw [eq_comm, decide_eq_false_iff_not]; simp only [Bool.toNat_false]; omega
    · rw [eq_comm, decide_eq_true_eq]; simp only [Bool.toNat_true]; omega
  | succ k =>
    rw [if_neg (by omega), Nat.testBit_succ, Nat.testBit_succ]
    congr 1
    cases b <;> simp only [Bool.toNat_false, Bool.toNat_true] <;> omega
theorem top_bit {a d i k : Nat} (_ : k < 256) : (if k = i then true else (qp a d (i + 1)).testBit k) = (qp a d (i + 1) + 2 ^ i).testBit k := by
  unfold qp
  rw [Nat.mul_comm, Nat.two_pow_add_eq_or_of_lt (Nat.pow_lt_pow_right (by decide) (by omega)), Nat.testBit_or]
  by_cases h : k = i
  · subst h; rw [if_pos rfl, Nat.testBit_two_pow_self, Bool.or_true]
  · rw [if_neg h, Nat.testBit_two_pow_of_ne (fun e => h e.symm), Bool.or_false]
theorem vresult_two {s : St} {r r' : ResultVar} {v v' : Value} (h : vres s r = some v) (h' : vres s r' = some v') : vresult s [r, r'] = some (.tuple #[v, v']) := by
  simp only [vresult, vresL, h, h']
  rfl
theorem plain_q {q r : Nat} : plain (.tuple #[b8 q, b8 r]) = true := by simp [plain, plainA, plainL, plain_b8]


theorem p31 {a m : Nat} (hm : m < 2 ^ 64) : Pure 31 [b8 a, u64 m] (b8 (a * m % 2 ^ 256)) := by
  refine pure_of Try.func31 rfl Try.ntmps31 (by kernel_rfl) (by simp [plainL, plain_b8, u64, plain]) (by simp) (plain_b8 _) ?_
  refine vc_seq ?_
  refine vc_go (by kernel_rfl) fun K hK => hK _ _ _ ?_
  clear hK K
  refine vc_seq ?_
  refine vc_go (by kernel_rfl) fun K hK => hK _ _ _ ?_
  clear hK K
  refine vc_seq ?_
  refine vc_seq ?_
  refine vc_go (by kernel_rfl) fun K hK => hK _ _ _ ?_
  clear hK K
  refine vc_block ?_
  refine vc_loop (fun n s => ∃ k0 : Nat, n = k0 ∧ k0 ≤ 64 ∧ IsSt [(1, u64 m), (2, pt 0), (4, pt 1), (5, pt 2), (6, .int .i64 ((k0 : Int) - 1))] [(0, .cells (bl (fun k => (a).testBit k)) 32 true), (1, .cells bits0 32 true), (2, .cells (bl (fun k => (a * (m / 2 ^ k0) % 2 ^ 256).testBit k)) 32 true)] 3 s) 64 ?_ ?_
  · exact ⟨64, rfl, by decide, isSt ⟨rfl, rfl, rfl, rfl, rfl, trivial⟩ ⟨rfl, rfl, bkz.trans (bkb (by rw [Nat.div_eq_of_lt hm, Nat.mul_zero, Nat.zero_mod])), trivial⟩ rfl⟩
  · rintro n s ⟨k0, hn, ha0, t, h, rfl⟩
    refine vc_seq ?_
    refine vc_seq ?_
    refine vc_go (by kernel_rfl) fun K hK => hK _ _ _ ?_
    clear hK K
    refine vc_cond rfl (fun c0 => ?_) (fun c0 => ?_)
    · -- cond 0 t8 true
      refine vc_skip ?_
      refine vc_seq ?_
      refine vc_block ?_
      refine vc_seq ?_
      have h0 : 0 < k0 := by
        simp only [decide_eq_true_eq] at c0
        omega
      obtain ⟨i, rfl⟩ : ∃ i, k0 = i + 1 := ⟨k0 - 1, by omega⟩
      refine refocus [(1, u64 m), (2, pt 0), (4, pt 1), (5, pt 2), (6, .int .i64 ((i : Nat)))] [(0, .cells (bl (fun k => (a).testBit k)) 32 true), (1, .cells bits0 32 true), (2, .cells (bl (fun k => (a * (m / 2 ^ (i + 1)) % 2 ^ 256).testBit k)) 32 true)] 3 ⟨rfl, rfl, rfl, rfl, ii (by omega), trivial⟩ ⟨rfl, rfl, rfl, trivial⟩ rfl fun t h => ?_
      have hw : IntKind.u64.wrap ((i : Nat) : Int) = ((i : Nat) : Int) := wrapN (by omega)
      have h64 : i ≤ IntKind.u64.bits := Nat.le_trans (show i ≤ 63 by omega) (by decide)
      refine vc_reg (by kernel_rfl) fun K hK => ?_
      refine run_rd (vex_ld32 rfl rfl) rfl ?_
      refine run_call (p81 (a * (m / 2 ^ (i + 1)) % 2 ^ 256)) rfl rfl rfl rfl ?_
      refine run_set (vex_st32 rfl rfl (bl_length _) rfl) rfl (by decide) rfl ?_
      refine run_end (z := false) fun K' hK' => hK' _ _ _ (hK _ _ _ ?_)
      clear hK' K' hK K
      refine vc_seq ?_
      refine vc_reg (by kernel_rfl) fun K hK => ?_
      refine run_n (z := false) 3 (fun K' hK' => hK' _ _ _ ?_) (by decide)
      clear hK' K'
      refine run_op (vex_shr (n := i) rfl rfl hw h64) rfl ?_
      refine run_end (z := false) fun K' hK' => hK' _ _ _ (hK _ _ _ ?_)
      clear hK' K' hK K
      refine vc_cond rfl (fun bm => ?_) (fun bm => ?_)
      · -- cond 1 t18 true
        refine vc_reg (by kernel_rfl) fun K hK => ?_
        refine run_rd (vex_ld32 rfl rfl) rfl ?_
        refine run_rd (vex_ld32 rfl rfl) rfl ?_
        refine run_call (p35 (2 * (a * (m / 2 ^ (i + 1)) % 2 ^ 256) % 2 ^ 256) a) rfl rfl rfl rfl ?_
        refine run_set (vex_st32 rfl rfl (bl_length _) rfl) rfl (by decide) rfl ?_
        refine run_end (z := false) fun K' hK' => hK' _ _ _ (hK _ _ _ ?_)
        clear hK' K' hK K
        refine vc_go (by kernel_rfl) fun K hK => hK _ _ _ ?_
        clear hK K
        exact ⟨i, by omega, i, rfl, by omega, isSt ⟨rfl, rfl, rfl, rfl, ii (wrapI (by omega) (by omega)), trivial⟩ ⟨rfl, rfl, bkb (prod_one ((bit_raw m i).symm.trans bm)), trivial⟩ rfl⟩
      · -- cond 1 t18 false
        refine vc_skip ?_
        refine vc_go (by kernel_rfl) fun K hK => hK _ _ _ ?_
        clear hK K
        exact ⟨i, by omega, i, rfl, by omega, isSt ⟨rfl, rfl, rfl, rfl, ii (wrapI (by omega) (by omega)), trivial⟩ ⟨rfl, rfl, bkb (prod_nil ((bit_raw m i).symm.trans bm)), trivial⟩ rfl⟩
    · -- cond 0 t8 false
      refine vc_exit ?_
      refine vc_seq ?_
      refine vc_reg (by kernel_rfl) fun K hK => ?_
      refine run_rd (vex_ld32 rfl rfl) rfl ?_
      refine run_set (vex_st32 rfl rfl bits0_length rfl) rfl (by decide) rfl ?_
      refine run_end (z := false) fun K' hK' => hK' _ _ _ (hK _ _ _ ?_)
      clear hK' K' hK K
      refine vc_ret ⟨.inr rfl, ?_⟩
      have h0 : k0 = 0 := by
        simp only [decide_eq_false_iff_not] at c0
        omega
      subst h0
      change vresult _ [.cell 4 32] = _
      rw [vresult_one]
      refine Eq.trans (vres_32 (m := 1) (f := fun k => (a * (m / 2 ^ 0) % 2 ^ 256).testBit k) rfl rfl) ?_
      rw [Nat.pow_zero, Nat.div_one]
      rfl

theorem p24 {a d : Nat} (ha : a < 2 ^ 256) (hd : 0 < d) (hd2 : d < 2 ^ 255) : Pure 24 [b8 a, b8 d] (.tuple #[b8 (a / d), b8 (a % d)]) := by
  refine pure_of Try.func24 rfl Try.ntmps24 (by kernel_rfl) (by simp [plainL, plain_b8]) (by simp) plain_q ?_
  refine vc_seq ?_
  refine vc_go (by kernel_rfl) fun K hK => hK _ _ _ ?_
  clear hK K
  refine vc_seq ?_
  refine vc_go (by kernel_rfl) fun K hK => hK _ _ _ ?_
  clear hK K
  refine vc_seq ?_
  refine vc_seq ?_
  refine vc_go (by kernel_rfl) fun K hK => hK _ _ _ ?_
  clear hK K
  refine vc_block ?_
  refine vc_loop (fun n s => ∃ k0 : Nat, n = k0 ∧ k0 ≤ 256 ∧ IsSt [(2, pt 0), (3, pt 1), (4, pt 2), (5, pt 3), (6, pt 4), (7, pt 5), (8, .int .i64 ((k0 : Int) - 1))] [(0, .cells (bl (fun k => (a).testBit k)) 32 true), (1, .cells (bl (fun k => (d).testBit k)) 32 true), (2, .cells bits0 32 true), (3, .cells bits0 32 true), (4, .cells (bl (fun k => (qp a d k0).testBit k)) 32 true), (5, .cells (bl (fun k => (rp a d k0).testBit k)) 32 true)] 6 s) 256 ?_ ?_
  · exact ⟨256, rfl, by decide, isSt ⟨rfl, rfl, rfl, rfl, rfl, rfl, rfl, trivial⟩ ⟨rfl, rfl, rfl, rfl, bkz.trans (bkb (by rw [qp, Nat.div_eq_of_lt ha, Nat.zero_div, Nat.zero_mul])), bkz.trans (bkb (by rw [rp, Nat.div_eq_of_lt ha, Nat.zero_mod])), trivial⟩ rfl⟩
  · rintro n s ⟨k0, hn, ha0, t, h, rfl⟩
    refine vc_seq ?_
    refine vc_seq ?_
    refine vc_go (by kernel_rfl) fun K hK => hK _ _ _ ?_
    clear hK K
    refine vc_cond rfl (fun c0 => ?_) (fun c0 => ?_)
    · -- cond 0 t10 true
      refine vc_skip ?_
      refine vc_seq ?_
      refine vc_block ?_
      refine vc_seq ?_
      have h0 : 0 < k0 := by
        simp only [decide_eq_true_eq] at c0
        omega
      obtain ⟨i, rfl⟩ : ∃ i, k0 = i + 1 := ⟨k0 - 1, by omega⟩
      have hR : rp a d (i + 1) < d := rp_lt hd
      have hB := Bool.toNat_lt (a.testBit i)
      refine refocus [(2, pt 0), (3, pt 1), (4, pt 2), (5, pt 3), (6, pt 4), (7, pt 5), (8, .int .i64 ((i : Nat)))] [(0, .cells (bl (fun k => (a).testBit k)) 32 true), (1, .cells (bl (fun k => (d).testBit k)) 32 true), (2, .cells bits0 32 true), (3, .cells bits0 32 true), (4, .cells (bl (fun k => (qp a d (i + 1)).testBit k)) 32 true), (5, .cells (bl (fun k => (rp a d (i + 1)).testBit k)) 32 true)] 6 ⟨rfl, rfl, rfl, rfl, rfl, rfl, ii (by omega), trivial⟩ ⟨rfl, rfl, rfl, rfl, rfl, rfl, trivial⟩ rfl fun t h => ?_
      refine vc_reg (by kernel_rfl) fun K hK => ?_
      refine run_rd (vex_ld32 rfl rfl) rfl ?_
      refine run_call (p81 (rp a d (i + 1))) rfl rfl rfl rfl ?_
      refine run_set (vex_st32 rfl rfl (bl_length _) rfl) rfl (by decide) rfl ?_
      refine run_end (z := false) fun K' hK' => hK' _ _ _ (hK _ _ _ ?_)
      clear hK' K' hK K
      refine vc_seq ?_
      refine vc_reg (by kernel_rfl) fun K hK => ?_
      refine run_n (z := false) 1 (fun K' hK' => hK' _ _ _ ?_) (by decide)
      clear hK' K'
      refine run_op (vex_ixa (j := i) rfl rfl rfl (show i < 256 by omega) rfl rfl) rfl ?_
      refine run_rd (vex_ld1 (k' := i) rfl (Nat.zero_add _ |>.trans (Nat.mul_one _)) rfl rfl (bl_get _ (by omega))) rfl ?_
      refine run_n (z := false) 1 (fun K' hK' => hK' _ _ _ ?_) (by decide)
      clear hK' K'
      refine run_set (vex_st1 (k' := 0) rfl rfl rfl rfl rfl rfl rfl (by intro a h; cases h) (by rw [bl_length]; decide)) rfl (by decide) rfl ?_
      refine run_end (z := false) fun K' hK' => hK' _ _ _ (hK _ _ _ ?_)
      clear hK' K' hK K
      refine vc_seq ?_
      refine refocus [(2, pt 0), (3, pt 1), (4, pt 2), (5, pt 3), (6, pt 4), (7, pt 5), (8, .int .i64 ((i : Nat)))] [(0, .cells (bl (fun k => (a).testBit k)) 32 true), (1, .cells (bl (fun k => (d).testBit k)) 32 true), (2, .cells bits0 32 true), (3, .cells bits0 32 true), (4, .cells (bl (fun k => (qp a d (i + 1)).testBit k)) 32 true), (5, .cells (bl (fun k => ((2 * rp a d (i + 1) + (a.testBit i).toNat)).testBit k)) 32 true)] 6 ⟨rfl, rfl, rfl, rfl, rfl, rfl, rfl, trivial⟩ ⟨rfl, rfl, rfl, rfl, rfl, blk32 (by decide) (fun k hk => low_bit (a.testBit i) (by omega) hk), trivial⟩ rfl fun t h => ?_
      have hX : (2 * rp a d (i + 1) + (a.testBit i).toNat) < 2 ^ 256 := by omega
      refine vc_reg (by kernel_rfl) fun K hK => ?_
      refine run_rd (vex_ld32 rfl rfl) rfl ?_
      refine run_rd (vex_ld32 rfl rfl) rfl ?_
      refine run_call (p32 hX (Nat.lt_trans hd2 (by decide))) rfl rfl rfl rfl ?_
      refine run_end (z := false) fun K' hK' => hK' _ _ _ (hK _ _ _ ?_)
      clear hK' K' hK K
      refine vc_cond rfl (fun cl => ?_) (fun cl => ?_)
      · -- cond 1 t22 true
        refine vc_seq ?_
        refine vc_reg (by kernel_rfl) fun K hK => ?_
        refine run_rd (vex_ld32 rfl rfl) rfl ?_
        refine run_rd (vex_ld32 rfl rfl) rfl ?_
        refine run_call (p37 (x := (2 * rp a d (i + 1) + (a.testBit i).toNat)) (y := d) (by have hge : ¬ (2 * rp a d (i + 1) + (a.testBit i).toNat) < d := (by simpa using cl); omega)) rfl rfl rfl rfl ?_
        refine run_set (vex_st32 rfl rfl (bl_length _) rfl) rfl (by decide) rfl ?_
        refine run_end (z := false) fun K' hK' => hK' _ _ _ (hK _ _ _ ?_)
        clear hK' K' hK K
        refine vc_reg (by kernel_rfl) fun K hK => ?_
        refine run_n (z := false) 1 (fun K' hK' => hK' _ _ _ ?_) (by decide)
        clear hK' K'
        refine run_op (vex_ixa (j := i) rfl rfl rfl (show i < 256 by omega) rfl rfl) rfl ?_
        refine run_set (vex_st1 (k' := i) rfl (Nat.zero_add _ |>.trans (Nat.mul_one _)) rfl rfl rfl rfl rfl (by intro a h; cases h) (by rw [bl_length]; omega)) rfl (by decide) rfl ?_
        refine run_end (z := false) fun K' hK' => hK' _ _ _ (hK _ _ _ ?_)
        clear hK' K' hK K
        refine vc_go (by kernel_rfl) fun K hK => hK _ _ _ ?_
        clear hK K
        have hge : ¬ (2 * rp a d (i + 1) + (a.testBit i).toNat) < d := by simpa using cl
        rw [bp_bit] at hge
        obtain ⟨ho1, ho2⟩ := over_one (v := a) (d := d) (p := i) hd (by omega)
        exact ⟨i, by omega, i, rfl, by omega, isSt ⟨rfl, rfl, rfl, rfl, rfl, rfl, ii (wrapI (by omega) (by omega)), trivial⟩ ⟨rfl, rfl, rfl, rfl, (blk32 (by omega) (fun k hk => top_bit (a := a) (d := d) (i := i) hk)).trans (bkb ho2.symm), bkb (by rw [ho1, bp_bit]), trivial⟩ rfl⟩
      · -- cond 1 t22 false
        refine vc_skip ?_
        refine vc_go (by kernel_rfl) fun K hK => hK _ _ _ ?_
        clear hK K
        have hge : (2 * rp a d (i + 1) + (a.testBit i).toNat) < d := by simpa using cl
        rw [bp_bit] at hge
        obtain ⟨ho1, ho2⟩ := over_nil (v := a) (d := d) (p := i) hd (by omega)
        exact ⟨i, by omega, i, rfl, by omega, isSt ⟨rfl, rfl, rfl, rfl, rfl, rfl, ii (wrapI (by omega) (by omega)), trivial⟩ ⟨rfl, rfl, rfl, rfl, bkb ho2.symm, bkb (by rw [ho1, bp_bit]), trivial⟩ rfl⟩
    · -- cond 0 t10 false
      refine vc_exit ?_
      refine vc_seq ?_
      refine vc_regD [(1, 2)] (by kernel_rfl) (by kernel_rfl) fun K hK => ?_
      refine runD_rd (vex_ld32 rfl rfl) rfl rfl ?_
      refine runD_rd (vex_ld32 rfl rfl) rfl rfl ?_
      refine runD_set (vex_st32 rfl rfl bits0_length rfl) rfl (by decide) rfl rfl ?_
      refine runD_set (vex_st32 rfl rfl bits0_length rfl) rfl (by decide) rfl rfl ?_
      refine runD_end (z := false) fun K' hK' => hK' _ _ _ _ (hK _ _ _ ?_)
      clear hK' K' hK K
      refine vc_ret ⟨.inr rfl, ?_⟩
      have h0 : k0 = 0 := by
        simp only [decide_eq_false_iff_not] at c0
        omega
      subst h0
      have e1 : qp a d 0 = a / d := by rw [qp, Nat.pow_zero, Nat.div_one, Nat.mul_one]
      have e2 : rp a d 0 = a % d := by rw [rp, Nat.pow_zero, Nat.div_one]
      rw [← e1, ← e2]
      change vresult _ [.cell 4 32, .cell 5 32] = _
      exact vresult_two (vres_32 (m := 2) (f := fun k => (qp a d 0).testBit k) rfl rfl) (vres_32 (m := 3) (f := fun k => (rp a d 0).testBit k) rfl rfl)
end Go.Proofs.Ytdfkcijholopoaa.Vm
namespace Go.Proofs.Ytdfkcijholopoaa.Vm
open Go Go.RowKit
set_option maxRecDepth 10000
set_option linter.unusedSimpArgs false
set_option linter.unusedVariables false

theorem bits_zero {v : Nat} (hv : v < 2 ^ 256) : decide (v = 0) = true ↔ ∀ k, k < 256 → v.testBit k = false := by
  rw [decide_eq_true_eq]
  constructor
  · rintro rfl k _
    exact Nat.zero_testBit k
  · intro h
    have := bits_lt (n := 0) hv (fun k _ hk => h k hk)
    omega
theorem agg0 : Value.agg bits0.toArray = .agg (bl fun _ => false).toArray := by rw [bl_zero]
theorem p25s {d : Nat} (hd : d < 2 ^ 64) : Pure 25 [.agg #[.int .u64 0, .int .u64 (d : Int)]] (b8 d) := by
  have h := p25 (a := d) (Nat.lt_trans hd (by decide))
  rw [wd_small hd] at h
  exact h
theorem p31s {a m : Nat} (ha : a < 2 ^ 128) (hm : m < 2 ^ 64) : Pure 31 [b8 a, u64 m] (b8 (a * m)) := by
  have h := p31 (a := a) hm
  rw [Nat.mod_eq_of_lt (Nat.lt_trans (mul_lt ha hm) (by decide))] at h
  exact h
theorem p35s {x y : Nat} (h : x + y < 2 ^ 256) : Pure 35 [b8 x, b8 y] (b8 (x + y)) := by
  have h2 := p35 x y
  rw [Nat.mod_eq_of_lt h] at h2
  exact h2
def numR (v : Nat) : Value := .tuple #[wd (v % 2 ^ 128), .bool (decide (v < 2 ^ 128))]


theorem p27 {a m d : Nat} (up : Bool) (ha : a < 2 ^ 128) (hm : m < 2 ^ 64) (hd0 : 0 < d) (hd : d < 2 ^ 64) : Pure 27 [wd a, u64 m, u64 d, .bool up] (numR (sc a m d up)) := by
  have ham : a * m < 2 ^ 256 := Nat.lt_trans (mul_lt ha hm) (by decide)
  have hq : a * m / d < 2 ^ 256 - 1 := Nat.lt_of_le_of_lt (Nat.div_le_self _ _) (Nat.lt_trans (mul_lt ha hm) (by decide))
  have hr : a * m % d < d := Nat.mod_lt _ hd0
  refine pure_of Try.func27 rfl Try.ntmps27 (by kernel_rfl) rfl (by simp) rfl ?_
  refine vc_seq ?_
  refine vc_go (by kernel_rfl) fun K hK => hK _ _ _ ?_
  clear hK K
  refine vc_seq ?_
  refine vc_reg (by kernel_rfl) fun K hK => ?_
  refine run_n (z := false) 1 (fun K' hK' => hK' _ _ _ ?_) (by decide)
  clear hK' K'
  refine run_call (p25 ha) rfl rfl rfl rfl ?_
  refine run_n (z := false) 1 (fun K' hK' => hK' _ _ _ ?_) (by decide)
  clear hK' K'
  refine run_call (p31s ha hm) rfl rfl rfl rfl ?_
  refine run_n (z := false) 2 (fun K' hK' => hK' _ _ _ ?_) (by decide)
  clear hK' K'
  refine run_call (p25s hd) rfl rfl rfl rfl ?_
  refine run_call (p24 ham hd0 (Nat.lt_trans hd (by decide))) rfl rfl rfl rfl ?_
  refine run_n (z := false) 5 (fun K' hK' => hK' _ _ _ ?_) (by decide)
  clear hK' K'
  refine run_set (vex_st32 rfl rfl bits0_length rfl) rfl (by decide) rfl ?_
  refine run_set (vex_st32 rfl rfl bits0_length rfl) rfl (by decide) rfl ?_
  refine run_end (z := false) fun K' hK' => hK' _ _ _ (hK _ _ _ ?_)
  clear hK' K' hK K
  refine vc_seq ?_
  refine vc_seq ?_
  refine vc_reg (by kernel_rfl) fun K hK => ?_
  refine run_n (z := false) 2 (fun K' hK' => hK' _ _ _ ?_) (by decide)
  clear hK' K'
  refine vgo_case 24 rfl (fun g0 => ?_) (fun g0 => ?_)
  · -- split 0 at 2,2 true
    refine run_rd (vex_ld32 rfl rfl) rfl ?_
    refine run_n (z := false) 1 (fun K' hK' => hK' _ _ _ ?_) (by decide)
    clear hK' K'
    refine run_op (vex_ne32 (f := fun k => (a * m % d).testBit k) (g := fun _ => false) (b := decide (a * m % d = 0)) rfl agg0 (bits_zero (by omega))) rfl ?_
    refine run_end (z := false) fun K' hK' => hK' _ _ _ (hK _ _ _ ?_)
    clear hK' K' hK K
    refine vc_cond rfl (fun cu => ?_) (fun cu => ?_)
    · -- cond 0 t28 true
      refine vc_regD [(0, 2)] (by kernel_rfl) (by kernel_rfl) fun K hK => ?_
      refine runD_rd (vex_ld32 rfl rfl) rfl rfl ?_
      refine runD_n (z := false) 1 (fun K' hK' => hK' _ _ _ _ ?_) (by decide)
      clear hK' K'
      refine runD_call (p25s (d := 1) (by decide)) rfl rfl rfl rfl ?_
      refine runD_call (p35s (x := a * m / d) (y := 1) (by omega)) rfl rfl rfl rfl ?_
      refine runD_set (vex_st32 rfl rfl (bl_length _) rfl) rfl (by decide) rfl rfl ?_
      refine runD_end (z := false) fun K' hK' => hK' _ _ _ _ (hK _ _ _ ?_)
      clear hK' K' hK K
      refine vc_seq ?_
      refine vc_reg (by kernel_rfl) fun K hK => ?_
      refine run_rd (vex_ld32 rfl rfl) rfl ?_
      refine run_call (p26 (v := a * m / d + 1) (by omega)) rfl rfl rfl rfl ?_
      refine run_end (z := false) fun K' hK' => hK' _ _ _ (hK _ _ _ ?_)
      clear hK' K' hK K
      refine vc_ret ⟨.inr rfl, ?_⟩
      have hs : sc a m d up = a * m / d + 1 := by 
        simp only [Bool.not_eq_true', decide_eq_false_iff_not] at cu
        rw [sc, if_pos ⟨g0, by omega⟩]
      rw [hs]
      rfl
    · -- cond 0 t28 false
      refine vc_skip ?_
      refine vc_seq ?_
      refine vc_reg (by kernel_rfl) fun K hK => ?_
      refine run_rd (vex_ld32 rfl rfl) rfl ?_
      refine run_call (p26 (v := a * m / d) (by omega)) rfl rfl rfl rfl ?_
      refine run_end (z := false) fun K' hK' => hK' _ _ _ (hK _ _ _ ?_)
      clear hK' K' hK K
      refine vc_ret ⟨.inr rfl, ?_⟩
      have hs : sc a m d up = a * m / d := by 
        simp only [Bool.not_eq_false', decide_eq_true_eq] at cu
        rw [sc, if_neg (fun h => by omega), Nat.add_zero]
      rw [hs]
      rfl
  · -- split 0 at 2,2 false
    refine run_end (z := false) fun K' hK' => hK' _ _ _ (hK _ _ _ ?_)
    clear hK' K' hK K
    refine vc_cond (t := false) rfl (fun h => by cases h) (fun _ => ?_)
    refine vc_skip ?_
    refine vc_seq ?_
    refine vc_reg (by kernel_rfl) fun K hK => ?_
    refine run_rd (vex_ld32 rfl rfl) rfl ?_
    refine run_call (p26 (v := a * m / d) (by omega)) rfl rfl rfl rfl ?_
    refine run_end (z := false) fun K' hK' => hK' _ _ _ (hK _ _ _ ?_)
    clear hK' K' hK K
    refine vc_ret ⟨.inr rfl, ?_⟩
    have hs : sc a m d up = a * m / d := by 
      rw [sc, if_neg (fun h => by rw [g0] at h; exact absurd h.1 (by decide)), Nat.add_zero]
    rw [hs]
    rfl

/-- What MulDiv answers. -/
def mdR (a b d : Nat) (up : Bool) : Value := if d = 0 then .tuple #[u64 0, .int .i64 130] else if sc a b d up < 2 ^ 64 then .tuple #[u64 (sc a b d up), .int .i64 0] else .tuple #[u64 0, .int .i64 131]
theorem mdR_zero {a b d : Nat} {up : Bool} (h : d = 0) : mdR a b d up = .tuple #[u64 0, .int .i64 130] := if_pos h
theorem mdR_ok {a b d : Nat} {up : Bool} (h : 0 < d) (h2 : sc a b d up < 2 ^ 64) : mdR a b d up = .tuple #[u64 (sc a b d up), .int .i64 0] := (if_neg (by omega)).trans (if_pos h2)
theorem mdR_bad {a b d : Nat} {up : Bool} (h : 0 < d) (h2 : ¬ sc a b d up < 2 ^ 64) : mdR a b d up = .tuple #[u64 0, .int .i64 131] := (if_neg (by omega)).trans (if_neg h2)
theorem mdR_plain (a b d : Nat) (up : Bool) : plain (mdR a b d up) = true := by
  unfold mdR
  repeat' split
  all_goals rfl
theorem p28 {a b d : Nat} (up : Bool) (ha : a < 2 ^ 64) (hb : b < 2 ^ 64) (hd : d < 2 ^ 64) : Pure 28 [u64 a, u64 b, u64 d, .bool up] (mdR a b d up) := by
  have h80 := p80 up (Nat.lt_trans ha (by decide)) hb hd
  obtain ⟨x, e, hs, hx⟩ := scR_res a b d up
  rw [hs] at h80
  refine pure_of Try.func28 rfl Try.ntmps28 (by kernel_rfl) rfl (by simp) (mdR_plain _ _ _ _) ?_
  refine vc_seq ?_
  refine vc_go (by kernel_rfl) fun K hK => hK _ _ _ ?_
  clear hK K
  refine vc_seq ?_
  refine vc_reg (by kernel_rfl) fun K hK => ?_
  refine run_n (z := false) 1 (fun K' hK' => hK' _ _ _ ?_) (by decide)
  clear hK' K'
  refine run_call (p34w ha) rfl rfl rfl rfl ?_
  refine run_n (z := false) 3 (fun K' hK' => hK' _ _ _ ?_) (by decide)
  clear hK' K'
  refine run_call (h80) rfl rfl rfl rfl ?_
  refine run_end (z := false) fun K' hK' => hK' _ _ _ (hK _ _ _ ?_)
  clear hK' K' hK K
  refine vc_seq ?_
  refine vc_block ?_
  refine vc_seq ?_
  refine vc_go (by kernel_rfl) fun K hK => hK _ _ _ ?_
  clear hK K
  refine vc_cond rfl (fun ce => ?_) (fun ce => ?_)
  · -- cond 0 t21 true
    refine vc_seq ?_
    refine vc_go (by kernel_rfl) fun K hK => hK _ _ _ ?_
    clear hK K
    refine vc_ret ⟨.inr rfl, ?_⟩
    simp only [bne_iff_ne, ne_eq, bne_eq_false_iff_eq, decide_eq_true_eq, decide_eq_false_iff_not] at *
    rcases hx with ⟨h1, h2, h3⟩ | ⟨h1, h4, h2, h3⟩ | ⟨h1, h4, h2, h3⟩
    · rw [mdR_zero h1, h3.symm]; rfl
    · exact absurd h3 ce
    · rw [mdR_bad h1 (by omega), h3.symm]; rfl
  · -- cond 0 t21 false
    refine vc_seq ?_
    refine vc_go (by kernel_rfl) fun K hK => hK _ _ _ ?_
    clear hK K
    refine vc_cond rfl (fun ch => ?_) (fun ch => ?_)
    · -- cond 1 t25 true
      refine vc_seq ?_
      refine vc_go (by kernel_rfl) fun K hK => hK _ _ _ ?_
      clear hK K
      refine vc_ret ⟨.inr rfl, ?_⟩
      simp only [bne_iff_ne, ne_eq, bne_eq_false_iff_eq, decide_eq_true_eq, decide_eq_false_iff_not] at *
      have hb2 : 0 < d ∧ ¬ sc a b d up < 2 ^ 64 := by omega
      rw [mdR_bad hb2.1 hb2.2]; rfl
    · -- cond 1 t25 false
      refine vc_skip ?_
      refine vc_seq ?_
      refine vc_go (by kernel_rfl) fun K hK => hK _ _ _ ?_
      clear hK K
      refine vc_ret ⟨.inr rfl, ?_⟩
      simp only [bne_iff_ne, ne_eq, bne_eq_false_iff_eq, decide_eq_true_eq, decide_eq_false_iff_not] at *
      have hb2 : 0 < d ∧ sc a b d up < 2 ^ 64 ∧ sc a b d up = x % 2 ^ 64 := by omega
      rw [mdR_ok hb2.1 hb2.2.1, hb2.2.2]; rfl
end Go.Proofs.Ytdfkcijholopoaa.Vm
namespace Go.Proofs.Ytdfkcijholopoaa.Vm
open Go Go.RowKit
set_option maxRecDepth 10000
set_option linter.unusedSimpArgs false
set_option linter.unusedVariables false

theorem vgo_known {ops : Array Oper} {base i : Nat} {l : List Oper} {t : Nat → Value} {h : Nat → Option Blk} {n : Nat} {K : St → Prop} (d : Nat) {b : Bool} (hd : t d = .bool b) (k : vgo ops base i l ⟨upd t d (.bool b), h, n⟩ K) : vgo ops base i l ⟨t, h, n⟩ K := by
  rwa [upd_eta t hd] at k
theorem W_known {ops : Array Oper} {U : List (Nat × Nat)} {base i : Nat} {l : List Oper} {log : Log} {t : Nat → Value} {h : Nat → Option Blk} {n : Nat} {K : St → Prop} (d : Nat) {b : Bool} (hd : t d = .bool b) (k : W ops U base i l log (upd t d (.bool b)) h n K) : W ops U base i l log t h n K := by
  rwa [upd_eta t hd] at k
theorem wd_beq (a b : Nat) : ((((a / 2 ^ 64 : Nat) : Int) == ((b / 2 ^ 64 : Nat) : Int)) && (((a % 2 ^ 64 : Nat) : Int) == ((b % 2 ^ 64 : Nat) : Int))) = decide (a = b) := by
  rw [Bool.eq_iff_iff]
  simp only [Bool.and_eq_true, beq_iff_eq, decide_eq_true_eq]
  omega
theorem wd_ne (a : Nat) : (!((((a / 2 ^ 64 : Nat) : Int) == ((a / 2 ^ 64 : Nat) : Int)) && (((a % 2 ^ 64 : Nat) : Int) == ((a % 2 ^ 64 : Nat) : Int)))) = false := by
  rw [wd_beq, decide_eq_true rfl]; rfl
theorem wd_eq (a : Nat) : ((((a / 2 ^ 64 : Nat) : Int) == ((a / 2 ^ 64 : Nat) : Int)) && (((a % 2 ^ 64 : Nat) : Int) == ((a % 2 ^ 64 : Nat) : Int))) = true := by
  rw [wd_beq, decide_eq_true rfl]
theorem p26w {v : Nat} (hv : v < 2 ^ 128) : Pure 26 [b8 v] (.tuple #[wd v, .bool true]) := by
  have h := p26 (v := v) (Nat.lt_trans hv (by decide))
  rw [Nat.mod_eq_of_lt hv, decide_eq_true hv] at h
  exact h
theorem p27y {a m d : Nat} (up : Bool) (ha : a < 2 ^ 128) (hm : m < 2 ^ 64) (hd0 : 0 < d) (hd : d < 2 ^ 64) (h : sc a m d up < 2 ^ 128) : Pure 27 [wd a, u64 m, u64 d, .bool up] (.tuple #[wd (sc a m d up), .bool true]) := by
  have h27 := p27 up ha hm hd0 hd
  rw [numR, Nat.mod_eq_of_lt h, decide_eq_true h] at h27
  exact h27
theorem p27n {a m d : Nat} (up : Bool) (ha : a < 2 ^ 128) (hm : m < 2 ^ 64) (hd0 : 0 < d) (hd : d < 2 ^ 64) (h : ¬ sc a m d up < 2 ^ 128) : Pure 27 [wd a, u64 m, u64 d, .bool up] (.tuple #[wd (sc a m d up % 2 ^ 128), .bool false]) := by
  have h27 := p27 up ha hm hd0 hd
  rw [numR, decide_eq_false h] at h27
  exact h27
theorem fin_b {b : Bool} (h : b = true) : some (Value.bool b) = some (.bool true) := by rw [h]


theorem p3z {a m : Nat} (ha : a < 2 ^ 128) (hm : m < 2 ^ 64) : Pure 3 [wd a, u64 m, u64 0] (.bool true) := by
  have h22 := p22 (d := 0) ha (by decide)
  have h23 := p23 (d := 0) ha hm (by decide)
  rw [div3_zero rfl] at h22
  rw [scR_zero rfl] at h23
  refine pure_of Try.func3 rfl Try.ntmps3 (by kernel_rfl) rfl (by simp) rfl ?_
  refine vc_seq ?_
  refine vc_go (by kernel_rfl) fun K hK => hK _ _ _ ?_
  clear hK K
  refine vc_seq ?_
  refine vc_seq ?_
  refine vc_reg (by kernel_rfl) fun K hK => ?_
  refine run_call (p21) rfl rfl rfl rfl ?_
  refine run_end (z := false) fun K' hK' => hK' _ _ _ (hK _ _ _ ?_)
  clear hK' K' hK K
  refine vc_cond (t := false) rfl (fun h => by cases h) (fun _ => ?_)
  refine vc_skip ?_
  refine vc_seq ?_
  refine vc_reg (by kernel_rfl) fun K hK => ?_
  refine run_n (z := false) 2 (fun K' hK' => hK' _ _ _ ?_) (by decide)
  clear hK' K'
  refine run_call (h22) rfl rfl rfl rfl ?_
  refine run_end (z := false) fun K' hK' => hK' _ _ _ (hK _ _ _ ?_)
  clear hK' K' hK K
  refine vc_seq ?_
  refine vc_reg (by kernel_rfl) fun K hK => ?_
  refine run_n (z := false) 3 (fun K' hK' => hK' _ _ _ ?_) (by decide)
  clear hK' K'
  refine run_call (h23) rfl rfl rfl rfl ?_
  refine run_end (z := false) fun K' hK' => hK' _ _ _ (hK _ _ _ ?_)
  clear hK' K' hK K
  refine vc_seq ?_
  refine vc_seq ?_
  refine vc_go (by kernel_rfl) fun K hK => hK _ _ _ ?_
  clear hK K
  refine vc_cond (t := true) rfl (fun _ => ?_) (fun h => by cases h)
  refine vc_seq ?_
  refine vc_go (by kernel_rfl) fun K hK => hK _ _ _ ?_
  clear hK K
  exact vc_ret ⟨.inr rfl, rfl⟩

theorem p3y {a m d : Nat} (ha : a < 2 ^ 128) (hm : m < 2 ^ 64) (hd0 : 0 < d) (hd : d < 2 ^ 64) (hx : sc a m d true < 2 ^ 128) : Pure 3 [wd a, u64 m, u64 d] (.bool true) := by
  have hq : a / d < 2 ^ 128 := Nat.lt_of_le_of_lt (Nat.div_le_self _ _) ha
  have hr : a % d < 2 ^ 64 := Nat.lt_trans (Nat.mod_lt _ hd0) hd
  have h22 := p22 (d := d) ha hd
  have h23 := p23 (d := d) ha hm hd
  have h27 := p27y true ha hm hd0 hd hx
  rw [div3_pos hd0] at h22
  rw [scR_ok hd0 hx] at h23
  have hz : (((d : Nat) : Int) == 0) = false := by rw [beq_eq_false_iff_ne]; omega
  have hrr : ((((a % d : Nat) : Int)) != ((a % d % 2 ^ 64 : Nat) : Int)) = false := by rw [Nat.mod_eq_of_lt hr, bne_eq_false_iff_eq]
  refine pure_of Try.func3 rfl Try.ntmps3 (by kernel_rfl) rfl (by simp) rfl ?_
  refine vc_seq ?_
  refine vc_go (by kernel_rfl) fun K hK => hK _ _ _ ?_
  clear hK K
  refine vc_seq ?_
  refine vc_seq ?_
  refine vc_reg (by kernel_rfl) fun K hK => ?_
  refine run_call (p21) rfl rfl rfl rfl ?_
  refine run_end (z := false) fun K' hK' => hK' _ _ _ (hK _ _ _ ?_)
  clear hK' K' hK K
  refine vc_cond (t := false) rfl (fun h => by cases h) (fun _ => ?_)
  refine vc_skip ?_
  refine vc_seq ?_
  refine vc_reg (by kernel_rfl) fun K hK => ?_
  refine run_n (z := false) 2 (fun K' hK' => hK' _ _ _ ?_) (by decide)
  clear hK' K'
  refine run_call (h22) rfl rfl rfl rfl ?_
  refine run_end (z := false) fun K' hK' => hK' _ _ _ (hK _ _ _ ?_)
  clear hK' K' hK K
  refine vc_seq ?_
  refine vc_reg (by kernel_rfl) fun K hK => ?_
  refine run_n (z := false) 3 (fun K' hK' => hK' _ _ _ ?_) (by decide)
  clear hK' K'
  refine run_call (h23) rfl rfl rfl rfl ?_
  refine run_end (z := false) fun K' hK' => hK' _ _ _ (hK _ _ _ ?_)
  clear hK' K' hK K
  refine vc_seq ?_
  refine vc_seq ?_
  refine vc_go (by kernel_rfl) fun K hK => hK _ _ _ ?_
  clear hK K
  refine vc_cond (t := false) (bb hz) (fun h => by cases h) (fun _ => ?_)
  refine vc_skip ?_
  refine vc_seq ?_
  refine vc_reg (by kernel_rfl) fun K hK => ?_
  refine run_n (z := false) 1 (fun K' hK' => hK' _ _ _ ?_) (by decide)
  clear hK' K'
  refine run_call (p25 ha) rfl rfl rfl rfl ?_
  refine run_n (z := false) 2 (fun K' hK' => hK' _ _ _ ?_) (by decide)
  clear hK' K'
  refine run_call (p25s hd) rfl rfl rfl rfl ?_
  refine run_call (p24 (Nat.lt_trans ha (by decide)) hd0 (Nat.lt_trans hd (by decide))) rfl rfl rfl rfl ?_
  refine run_n (z := false) 5 (fun K' hK' => hK' _ _ _ ?_) (by decide)
  clear hK' K'
  refine run_set (vex_st32 rfl rfl bits0_length rfl) rfl (by decide) rfl ?_
  refine run_set (vex_st32 rfl rfl bits0_length rfl) rfl (by decide) rfl ?_
  refine run_end (z := false) fun K' hK' => hK' _ _ _ (hK _ _ _ ?_)
  clear hK' K' hK K
  refine vc_seq ?_
  refine vc_reg (by kernel_rfl) fun K hK => ?_
  refine run_rd (vex_ld32 rfl rfl) rfl ?_
  refine run_call (p26w hq) rfl rfl rfl rfl ?_
  refine run_end (z := false) fun K' hK' => hK' _ _ _ (hK _ _ _ ?_)
  clear hK' K' hK K
  refine vc_seq ?_
  refine vc_reg (by kernel_rfl) fun K hK => ?_
  refine run_rd (vex_ld32 rfl rfl) rfl ?_
  refine run_call (p26w (Nat.lt_trans hr (by decide))) rfl rfl rfl rfl ?_
  refine run_end (z := false) fun K' hK' => hK' _ _ _ (hK _ _ _ ?_)
  clear hK' K' hK K
  refine vc_seq ?_
  refine vc_seq ?_
  refine vc_reg (by kernel_rfl) fun K hK => ?_
  refine run_n (z := false) 8 (fun K' hK' => hK' _ _ _ ?_) (by decide)
  clear hK' K'
  refine vgo_known 84 (b := false) (bb (wd_ne (a / d))) ?_
  refine run_end (z := false) fun K' hK' => hK' _ _ _ (hK _ _ _ ?_)
  clear hK' K' hK K
  refine vc_cond (t := false) (bb hrr) (fun h => by cases h) (fun _ => ?_)
  refine vc_skip ?_
  refine vc_seq ?_
  refine vc_reg (by kernel_rfl) fun K hK => ?_
  refine run_n (z := false) 3 (fun K' hK' => hK' _ _ _ ?_) (by decide)
  clear hK' K'
  refine run_call (h27) rfl rfl rfl rfl ?_
  refine run_end (z := false) fun K' hK' => hK' _ _ _ (hK _ _ _ ?_)
  clear hK' K' hK K
  refine vc_seq ?_
  refine vc_seq ?_
  refine vc_go (by kernel_rfl) fun K hK => hK _ _ _ ?_
  clear hK K
  refine vc_cond (t := false) rfl (fun h => by cases h) (fun _ => ?_)
  refine vc_skip ?_
  refine vc_seq ?_
  refine vc_go (by kernel_rfl) fun K hK => hK _ _ _ ?_
  clear hK K
  refine vc_ret ⟨.inr rfl, ?_⟩
  exact Eq.trans (b := some (.bool _)) rfl (fin_b (wd_eq (sc a m d true)))

theorem p3n {a m d : Nat} (ha : a < 2 ^ 128) (hm : m < 2 ^ 64) (hd0 : 0 < d) (hd : d < 2 ^ 64) (hx : ¬ sc a m d true < 2 ^ 128) : Pure 3 [wd a, u64 m, u64 d] (.bool true) := by
  have hq : a / d < 2 ^ 128 := Nat.lt_of_le_of_lt (Nat.div_le_self _ _) ha
  have hr : a % d < 2 ^ 64 := Nat.lt_trans (Nat.mod_lt _ hd0) hd
  have h22 := p22 (d := d) ha hd
  have h23 := p23 (d := d) ha hm hd
  have h27 := p27n true ha hm hd0 hd hx
  rw [div3_pos hd0] at h22
  rw [scR_bad hd0 hx] at h23
  have hz : (((d : Nat) : Int) == 0) = false := by rw [beq_eq_false_iff_ne]; omega
  have hrr : ((((a % d : Nat) : Int)) != ((a % d % 2 ^ 64 : Nat) : Int)) = false := by rw [Nat.mod_eq_of_lt hr, bne_eq_false_iff_eq]
  refine pure_of Try.func3 rfl Try.ntmps3 (by kernel_rfl) rfl (by simp) rfl ?_
  refine vc_seq ?_
  refine vc_go (by kernel_rfl) fun K hK => hK _ _ _ ?_
  clear hK K
  refine vc_seq ?_
  refine vc_seq ?_
  refine vc_reg (by kernel_rfl) fun K hK => ?_
  refine run_call (p21) rfl rfl rfl rfl ?_
  refine run_end (z := false) fun K' hK' => hK' _ _ _ (hK _ _ _ ?_)
  clear hK' K' hK K
  refine vc_cond (t := false) rfl (fun h => by cases h) (fun _ => ?_)
  refine vc_skip ?_
  refine vc_seq ?_
  refine vc_reg (by kernel_rfl) fun K hK => ?_
  refine run_n (z := false) 2 (fun K' hK' => hK' _ _ _ ?_) (by decide)
  clear hK' K'
  refine run_call (h22) rfl rfl rfl rfl ?_
  refine run_end (z := false) fun K' hK' => hK' _ _ _ (hK _ _ _ ?_)
  clear hK' K' hK K
  refine vc_seq ?_
  refine vc_reg (by kernel_rfl) fun K hK => ?_
  refine run_n (z := false) 3 (fun K' hK' => hK' _ _ _ ?_) (by decide)
  clear hK' K'
  refine run_call (h23) rfl rfl rfl rfl ?_
  refine run_end (z := false) fun K' hK' => hK' _ _ _ (hK _ _ _ ?_)
  clear hK' K' hK K
  refine vc_seq ?_
  refine vc_seq ?_
  refine vc_go (by kernel_rfl) fun K hK => hK _ _ _ ?_
  clear hK K
  refine vc_cond (t := false) (bb hz) (fun h => by cases h) (fun _ => ?_)
  refine vc_skip ?_
  refine vc_seq ?_
  refine vc_reg (by kernel_rfl) fun K hK => ?_
  refine run_n (z := false) 1 (fun K' hK' => hK' _ _ _ ?_) (by decide)
  clear hK' K'
  refine run_call (p25 ha) rfl rfl rfl rfl ?_
  refine run_n (z := false) 2 (fun K' hK' => hK' _ _ _ ?_) (by decide)
  clear hK' K'
  refine run_call (p25s hd) rfl rfl rfl rfl ?_
  refine run_call (p24 (Nat.lt_trans ha (by decide)) hd0 (Nat.lt_trans hd (by decide))) rfl rfl rfl rfl ?_
  refine run_n (z := false) 5 (fun K' hK' => hK' _ _ _ ?_) (by decide)
  clear hK' K'
  refine run_set (vex_st32 rfl rfl bits0_length rfl) rfl (by decide) rfl ?_
  refine run_set (vex_st32 rfl rfl bits0_length rfl) rfl (by decide) rfl ?_
  refine run_end (z := false) fun K' hK' => hK' _ _ _ (hK _ _ _ ?_)
  clear hK' K' hK K
  refine vc_seq ?_
  refine vc_reg (by kernel_rfl) fun K hK => ?_
  refine run_rd (vex_ld32 rfl rfl) rfl ?_
  refine run_call (p26w hq) rfl rfl rfl rfl ?_
  refine run_end (z := false) fun K' hK' => hK' _ _ _ (hK _ _ _ ?_)
  clear hK' K' hK K
  refine vc_seq ?_
  refine vc_reg (by kernel_rfl) fun K hK => ?_
  refine run_rd (vex_ld32 rfl rfl) rfl ?_
  refine run_call (p26w (Nat.lt_trans hr (by decide))) rfl rfl rfl rfl ?_
  refine run_end (z := false) fun K' hK' => hK' _ _ _ (hK _ _ _ ?_)
  clear hK' K' hK K
  refine vc_seq ?_
  refine vc_seq ?_
  refine vc_reg (by kernel_rfl) fun K hK => ?_
  refine run_n (z := false) 8 (fun K' hK' => hK' _ _ _ ?_) (by decide)
  clear hK' K'
  refine vgo_known 84 (b := false) (bb (wd_ne (a / d))) ?_
  refine run_end (z := false) fun K' hK' => hK' _ _ _ (hK _ _ _ ?_)
  clear hK' K' hK K
  refine vc_cond (t := false) (bb hrr) (fun h => by cases h) (fun _ => ?_)
  refine vc_skip ?_
  refine vc_seq ?_
  refine vc_reg (by kernel_rfl) fun K hK => ?_
  refine run_n (z := false) 3 (fun K' hK' => hK' _ _ _ ?_) (by decide)
  clear hK' K'
  refine run_call (h27) rfl rfl rfl rfl ?_
  refine run_end (z := false) fun K' hK' => hK' _ _ _ (hK _ _ _ ?_)
  clear hK' K' hK K
  refine vc_seq ?_
  refine vc_seq ?_
  refine vc_go (by kernel_rfl) fun K hK => hK _ _ _ ?_
  clear hK K
  refine vc_cond (t := true) rfl (fun _ => ?_) (fun h => by cases h)
  refine vc_seq ?_
  refine vc_go (by kernel_rfl) fun K hK => hK _ _ _ ?_
  clear hK K
  exact vc_ret ⟨.inr rfl, rfl⟩

theorem p3 {a m d : Nat} (ha : a < 2 ^ 128) (hm : m < 2 ^ 64) (hd : d < 2 ^ 64) : Pure 3 [wd a, u64 m, u64 d] (.bool true) := by
  rcases Nat.eq_zero_or_pos d with rfl | hd0
  · exact p3z ha hm
  · by_cases hx : sc a m d true < 2 ^ 128
    · exact p3y ha hm hd0 hd hx
    · exact p3n ha hm hd0 hd hx

end Go.Proofs.Ytdfkcijholopoaa.Vm
namespace Go.Proofs.Ytdfkcijholopoaa.Vm
open Go Go.RowKit
set_option maxRecDepth 10000
set_option linter.unusedSimpArgs false
set_option linter.unusedVariables false

/-- May w be a weight? -/
def wt (w : Nat) : Bool := decide (1 ≤ w ∧ w ≤ 65535)
/-- May n over w be a fraction? -/
def rt (n w : Nat) : Bool := decide (1 ≤ w ∧ w ≤ 65535 ∧ n < 2 ^ 100)
def fr (n w : Nat) : Value := .agg #[.int .u64 ((n / 2 ^ 64 : Nat) : Int), .int .u64 ((n % 2 ^ 64 : Nat) : Int), .int .u64 (w : Int)]
def frc (n w : Nat) : List Value := [.int .u64 ((n / 2 ^ 64 : Nat) : Int), .int .u64 ((n % 2 ^ 64 : Nat) : Int), .int .u64 (w : Int)]
theorem fin_bb {b b' : Bool} (h : b = b') : some (Value.bool b) = some (.bool b') := by rw [h]
theorem rt_w {n w : Nat} (h : rt n w = true) : 1 ≤ w ∧ w ≤ 65535 ∧ n < 2 ^ 100 := by simpa [rt] using h
theorem wt_w {w : Nat} (h : wt w = true) : 1 ≤ w ∧ w ≤ 65535 := by simpa [wt] using h
theorem wt_f {w : Nat} (h : wt w = false) : w < 1 ∨ 65535 < w := by
  have : ¬ (1 ≤ w ∧ w ≤ 65535) := by simpa only [wt, decide_eq_false_iff_not] using h
  omega
theorem rt_wt {n w : Nat} (h : rt n w = true) : wt w = true := by
  have := rt_w h
  rw [wt, decide_eq_true_eq]; omega
theorem rt_bad {n w : Nat} (h : (!wt w) = true) : rt n w = false := by
  have := wt_f (by simpa using h)
  rw [rt, decide_eq_false_iff_not]; omega
theorem rt_big {n w : Nat} (h : decide (((n / 2 ^ 64 : Nat) : Int) ≥ 68719476736) = true) : rt n w = false := by
  rw [decide_eq_true_eq] at h
  rw [rt, decide_eq_false_iff_not]; omega
theorem rt_ok {n w : Nat} (h : (!wt w) = false) (h2 : decide (((n / 2 ^ 64 : Nat) : Int) ≥ 68719476736) = false) : rt n w = true := by
  have := wt_w (w := w) (by simpa using h)
  rw [decide_eq_false_iff_not] at h2
  rw [rt, decide_eq_true_eq]; omega


theorem p106 (w : Nat) : Pure 106 [u64 w] (.bool (wt w)) := by
  refine pure_of Try.func106 rfl Try.ntmps106 (by kernel_rfl) rfl (by simp) rfl ?_
  refine vc_seq ?_
  refine vc_go (by kernel_rfl) fun K hK => hK _ _ _ ?_
  clear hK K
  refine vc_seq ?_
  refine vc_reg (by kernel_rfl) fun K hK => ?_
  refine run_n (z := false) 3 (fun K' hK' => hK' _ _ _ ?_) (by decide)
  clear hK' K'
  refine vgo_case 5 rfl (fun g0 => ?_) (fun g0 => ?_)
  · -- split 0 at 1,3 true
    refine run_end (z := false) fun K' hK' => hK' _ _ _ (hK _ _ _ ?_)
    clear hK' K' hK K
    refine vc_ret ⟨.inr rfl, ?_⟩
    exact Eq.trans (b := some (.bool _)) rfl (fin_bb (by rw [Bool.eq_iff_iff]; simp only [wt, decide_eq_true_eq, decide_eq_false_iff_not, Bool.false_eq_true, false_iff] at *; omega))
  · -- split 0 at 1,3 false
    refine run_end (z := false) fun K' hK' => hK' _ _ _ (hK _ _ _ ?_)
    clear hK' K' hK K
    refine vc_ret ⟨.inr rfl, ?_⟩
    exact Eq.trans (b := some (.bool _)) rfl (fin_bb (by rw [Bool.eq_iff_iff]; simp only [wt, decide_eq_true_eq, decide_eq_false_iff_not, Bool.false_eq_true, false_iff] at *; omega))

theorem p59 (w : Nat) : Pure 59 [u64 w] (.bool (wt w)) := by
  refine pure_of Try.func59 rfl Try.ntmps59 (by kernel_rfl) rfl (by simp) rfl ?_
  refine vc_seq ?_
  refine vc_go (by kernel_rfl) fun K hK => hK _ _ _ ?_
  clear hK K
  refine vc_seq ?_
  refine vc_reg (by kernel_rfl) fun K hK => ?_
  refine run_n (z := false) 3 (fun K' hK' => hK' _ _ _ ?_) (by decide)
  clear hK' K'
  refine vgo_case 5 rfl (fun g0 => ?_) (fun g0 => ?_)
  · -- split 0 at 1,3 true
    refine run_end (z := false) fun K' hK' => hK' _ _ _ (hK _ _ _ ?_)
    clear hK' K' hK K
    refine vc_ret ⟨.inr rfl, ?_⟩
    exact Eq.trans (b := some (.bool _)) rfl (fin_bb (by rw [Bool.eq_iff_iff]; simp only [wt, decide_eq_true_eq, decide_eq_false_iff_not, Bool.false_eq_true, false_iff] at *; omega))
  · -- split 0 at 1,3 false
    refine run_end (z := false) fun K' hK' => hK' _ _ _ (hK _ _ _ ?_)
    clear hK' K' hK K
    refine vc_ret ⟨.inr rfl, ?_⟩
    exact Eq.trans (b := some (.bool _)) rfl (fin_bb (by rw [Bool.eq_iff_iff]; simp only [wt, decide_eq_true_eq, decide_eq_false_iff_not, Bool.false_eq_true, false_iff] at *; omega))

theorem p90a (n w : Nat) : RO 90 [.slice (some ⟨0, 0, none⟩) 1 1] [(0, frc n w)] (.bool (rt n w)) := by
  refine ro_of _ 1 Try.func90 rfl Try.ntmps90 (by kernel_rfl) (by simp) rfl rfl (by simp) (by simp [plainL, plain, frc]) ?_
  refine vc_seq ?_
  refine vc_go (by kernel_rfl) fun K hK => hK _ _ _ ?_
  clear hK K
  refine vc_seq ?_
  refine vc_seq ?_
  refine vc_go (by kernel_rfl) fun K hK => hK _ _ _ ?_
  clear hK K
  refine vc_block ?_
  refine vc_rounds 2 ?_
  refine vc_seq ?_
  refine vc_go (by kernel_rfl) fun K hK => hK _ _ _ ?_
  clear hK K
  refine vc_seq ?_
  refine vc_cond (t := true) rfl (fun _ => ?_) (fun h => by cases h)
  refine vc_skip ?_
  refine vc_seq ?_
  refine vc_block ?_
  refine vc_seq ?_
  refine vc_go (by kernel_rfl) fun K hK => hK _ _ _ ?_
  clear hK K
  refine vc_seq ?_
  refine vc_reg (by kernel_rfl) fun K hK => ?_
  refine run_n (z := false) 2 (fun K' hK' => hK' _ _ _ ?_) (by decide)
  clear hK' K'
  refine run_call (p106 w) rfl rfl rfl rfl ?_
  refine run_n (z := false) 2 (fun K' hK' => hK' _ _ _ ?_) (by decide)
  clear hK' K'
  refine vgo_case 15 rfl (fun g0 => ?_) (fun g0 => ?_)
  · -- split 0 at 4,5 true
    refine run_end (z := false) fun K' hK' => hK' _ _ _ (hK _ _ _ ?_)
    clear hK' K' hK K
    refine vc_cond (t := true) rfl (fun _ => ?_) (fun h => by cases h)
    refine vc_seq ?_
    refine vc_go (by kernel_rfl) fun K hK => hK _ _ _ ?_
    clear hK K
    refine vc_ret ⟨.inr rfl, ?_⟩
    rw [rt_bad g0]
    rfl
  · -- split 0 at 4,5 false
    refine run_end (z := false) fun K' hK' => hK' _ _ _ (hK _ _ _ ?_)
    clear hK' K' hK K
    refine vc_cond rfl (fun c2 => ?_) (fun c2 => ?_)
    · -- cond 2 t20 true
      refine vc_seq ?_
      refine vc_go (by kernel_rfl) fun K hK => hK _ _ _ ?_
      clear hK K
      refine vc_ret ⟨.inr rfl, ?_⟩
      rw [rt_big c2]
      rfl
    · -- cond 2 t20 false
      refine vc_skip ?_
      refine vc_go (by kernel_rfl) fun K hK => hK _ _ _ ?_
      clear hK K
      refine vc_seq ?_
      refine vc_go (by kernel_rfl) fun K hK => hK _ _ _ ?_
      clear hK K
      refine vc_seq ?_
      refine vc_cond (t := false) rfl (fun h => by cases h) (fun _ => ?_)
      refine vc_exit ?_
      refine vc_seq ?_
      refine vc_go (by kernel_rfl) fun K hK => hK _ _ _ ?_
      clear hK K
      refine vc_ret ⟨.inr rfl, ?_⟩
      rw [rt_ok g0 c2]
      rfl

theorem p90b (n w m v : Nat) : RO 90 [.slice (some ⟨0, 0, none⟩) 2 2] [(0, frc n w ++ frc m v)] (.bool (rt n w && rt m v)) := by
  refine ro_of _ 1 Try.func90 rfl Try.ntmps90 (by kernel_rfl) (by simp) rfl rfl (by simp) (by simp [plainL, plain, frc]) ?_
  refine vc_seq ?_
  refine vc_go (by kernel_rfl) fun K hK => hK _ _ _ ?_
  clear hK K
  refine vc_seq ?_
  refine vc_seq ?_
  refine vc_go (by kernel_rfl) fun K hK => hK _ _ _ ?_
  clear hK K
  refine vc_block ?_
  refine vc_rounds 3 ?_
  refine vc_seq ?_
  refine vc_go (by kernel_rfl) fun K hK => hK _ _ _ ?_
  clear hK K
  refine vc_seq ?_
  refine vc_cond (t := true) rfl (fun _ => ?_) (fun h => by cases h)
  refine vc_skip ?_
  refine vc_seq ?_
  refine vc_block ?_
  refine vc_seq ?_
  refine vc_go (by kernel_rfl) fun K hK => hK _ _ _ ?_
  clear hK K
  refine vc_seq ?_
  refine vc_reg (by kernel_rfl) fun K hK => ?_
  refine run_n (z := false) 2 (fun K' hK' => hK' _ _ _ ?_) (by decide)
  clear hK' K'
  refine run_call (p106 w) rfl rfl rfl rfl ?_
  refine run_n (z := false) 2 (fun K' hK' => hK' _ _ _ ?_) (by decide)
  clear hK' K'
  refine vgo_case 15 rfl (fun g0 => ?_) (fun g0 => ?_)
  · -- split 0 at 4,5 true
    refine run_end (z := false) fun K' hK' => hK' _ _ _ (hK _ _ _ ?_)
    clear hK' K' hK K
    refine vc_cond (t := true) rfl (fun _ => ?_) (fun h => by cases h)
    refine vc_seq ?_
    refine vc_go (by kernel_rfl) fun K hK => hK _ _ _ ?_
    clear hK K
    refine vc_ret ⟨.inr rfl, ?_⟩
    rw [rt_bad g0, Bool.false_and]
    rfl
  · -- split 0 at 4,5 false
    refine run_end (z := false) fun K' hK' => hK' _ _ _ (hK _ _ _ ?_)
    clear hK' K' hK K
    refine vc_cond rfl (fun c2 => ?_) (fun c2 => ?_)
    · -- cond 2 t20 true
      refine vc_seq ?_
      refine vc_go (by kernel_rfl) fun K hK => hK _ _ _ ?_
      clear hK K
      refine vc_ret ⟨.inr rfl, ?_⟩
      rw [rt_big c2, Bool.false_and]
      rfl
    · -- cond 2 t20 false
      refine vc_skip ?_
      refine vc_go (by kernel_rfl) fun K hK => hK _ _ _ ?_
      clear hK K
      refine vc_seq ?_
      refine vc_go (by kernel_rfl) fun K hK => hK _ _ _ ?_
      clear hK K
      refine vc_seq ?_
      refine vc_cond (t := true) rfl (fun _ => ?_) (fun h => by cases h)
      refine vc_skip ?_
      refine vc_seq ?_
      refine vc_block ?_
      refine vc_seq ?_
      refine vc_go (by kernel_rfl) fun K hK => hK _ _ _ ?_
      clear hK K
      refine vc_seq ?_
      refine vc_reg (by kernel_rfl) fun K hK => ?_
      refine run_n (z := false) 2 (fun K' hK' => hK' _ _ _ ?_) (by decide)
      clear hK' K'
      refine run_call (p106 v) rfl rfl rfl rfl ?_
      refine run_n (z := false) 2 (fun K' hK' => hK' _ _ _ ?_) (by decide)
      clear hK' K'
      refine vgo_case 15 rfl (fun g1 => ?_) (fun g1 => ?_)
      · -- split 1 at 4,5 true
        refine run_end (z := false) fun K' hK' => hK' _ _ _ (hK _ _ _ ?_)
        clear hK' K' hK K
        refine vc_cond (t := true) rfl (fun _ => ?_) (fun h => by cases h)
        refine vc_seq ?_
        refine vc_go (by kernel_rfl) fun K hK => hK _ _ _ ?_
        clear hK K
        refine vc_ret ⟨.inr rfl, ?_⟩
        rw [rt_bad g1, Bool.and_false]
        rfl
      · -- split 1 at 4,5 false
        refine run_end (z := false) fun K' hK' => hK' _ _ _ (hK _ _ _ ?_)
        clear hK' K' hK K
        refine vc_cond rfl (fun c5 => ?_) (fun c5 => ?_)
        · -- cond 5 t20 true
          refine vc_seq ?_
          refine vc_go (by kernel_rfl) fun K hK => hK _ _ _ ?_
          clear hK K
          refine vc_ret ⟨.inr rfl, ?_⟩
          rw [rt_big c5, Bool.and_false]
          rfl
        · -- cond 5 t20 false
          refine vc_skip ?_
          refine vc_go (by kernel_rfl) fun K hK => hK _ _ _ ?_
          clear hK K
          refine vc_seq ?_
          refine vc_go (by kernel_rfl) fun K hK => hK _ _ _ ?_
          clear hK K
          refine vc_seq ?_
          refine vc_cond (t := false) rfl (fun h => by cases h) (fun _ => ?_)
          refine vc_exit ?_
          refine vc_seq ?_
          refine vc_go (by kernel_rfl) fun K hK => hK _ _ _ ?_
          clear hK K
          refine vc_ret ⟨.inr rfl, ?_⟩
          rw [rt_ok g0 c2, rt_ok g1 c5]
          rfl
end Go.Proofs.Ytdfkcijholopoaa.Vm
