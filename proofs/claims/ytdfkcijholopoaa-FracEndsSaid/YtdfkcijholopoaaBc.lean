/- The reference's functions over bits, walked. -/
import Derived.Test.YtdfkcijholopoaaBb
namespace Go.Proofs.Ytdfkcijholopoaa.Vm
open Go Go.RowKit
set_option maxRecDepth 10000
set_option linter.unusedSimpArgs false
set_option linter.unusedVariables false

theorem vresult_one (s : St) (r : ResultVar) : vresult s [r] = vres s r := rfl


theorem p25 {a : Nat} (ha : a < 2 ^ 128) : Pure 25 [wd a] (b8 a) := by
  refine pure_of Try.func25 rfl Try.ntmps25 (by kernel_rfl) rfl (by simp) (plain_b8 a) ?_
  refine vc_seq ?_
  refine vc_go (by kernel_rfl) fun K hK => hK _ _ _ ?_
  clear hK K
  refine vc_seq ?_
  refine vc_go (by kernel_rfl) fun K hK => hK _ _ _ ?_
  clear hK K
  refine vc_seq ?_
  refine vc_seq ?_
  refine vc_go (by kernel_rfl) fun K hK => hK _ _ _ ?_
  clear hK K
  refine vc_block ?_
  refine vc_loop (fun n s => ∃ i : Nat, n = 64 - i ∧ i ≤ 64 ∧ IsSt [(1, pt 0), (2, pt 1), (3, pt 2), (4, .int .i64 (i : Nat))] [(0, .cells [u64 (a / 2 ^ 64), u64 (a % 2 ^ 64)] 24 true), (1, .cells bits0 32 true), (2, .cells (bl (ofB a i)) 32 true)] 3 s) 64 ?_ ?_
  · exact ⟨0, rfl, by decide, isSt ⟨rfl, rfl, rfl, rfl, trivial⟩ ⟨rfl, rfl, blk0 (f := ofB a 0) (fun k hk => by rw [show ofB a 0 k = (decide (k < 0 ∨ (64 ≤ k ∧ k < 64)) && a.testBit k) from (by unfold ofB; congr 1; rw [Bool.eq_iff_iff]; simp only [Bool.or_eq_true, Bool.and_eq_true, decide_eq_true_eq]), decide_eq_false (by omega)]; exact Bool.false_and _), trivial⟩ rfl⟩
  · rintro n s ⟨i, hn, hi, t, h, rfl⟩
    refine vc_seq ?_
    refine vc_seq ?_
    refine vc_go (by kernel_rfl) fun K hK => hK _ _ _ ?_
    clear hK K
    refine vc_cond rfl (fun c0 => ?_) (fun c0 => ?_)
    · -- cond 0 t6 true
      refine vc_skip ?_
      refine vc_seq ?_
      refine vc_block ?_
      refine vc_seq ?_
      have hlt : i < 64 := by
        simp only [decide_eq_true_eq] at c0
        omega
      have hw : IntKind.u64.wrap ((i : Nat) : Int) = ((i : Nat) : Int) := wrapN (by omega)
      have h64 : i ≤ IntKind.u64.bits := Nat.le_trans (Nat.le_of_lt hlt) (by decide)
      have hw2 : IntKind.i64.wrap (64 + ((i : Nat) : Int)) = ((64 + i : Nat) : Int) := by rw [wrapI (by omega) (by omega)]; omega
      have hb1 := bit_raw (a % 2 ^ 64) i
      have hb1' : (a % 2 ^ 64).testBit i = a.testBit i := by rw [Nat.testBit_mod_two_pow, decide_eq_true hlt]; rfl
      have hb2 := bit_raw (a / 2 ^ 64) i
      have hb2' : (a / 2 ^ 64).testBit i = a.testBit (64 + i) := by rw [Nat.testBit_div_two_pow, Nat.add_comm]
      refine vc_reg (by kernel_rfl) fun K hK => ?_
      refine run_n (z := false) 5 (fun K' hK' => hK' _ _ _ ?_) (by decide)
      clear hK' K'
      refine run_op (vex_shr (n := i) rfl rfl hw h64) rfl ?_
      refine run_n (z := false) 2 (fun K' hK' => hK' _ _ _ ?_) (by decide)
      clear hK' K'
      refine run_op (vex_ixa (j := i) rfl rfl rfl (show i < 256 by omega) rfl rfl) rfl ?_
      refine run_set (vex_st1 (k' := i) rfl (Nat.zero_add _ |>.trans (Nat.mul_one _)) rfl rfl rfl rfl rfl (by intro a h; cases h) (by rw [bl_length]; omega)) rfl (by decide) rfl ?_
      refine run_end (z := false) fun K' hK' => hK' _ _ _ (hK _ _ _ ?_)
      clear hK' K' hK K
      refine vc_reg (by kernel_rfl) fun K hK => ?_
      refine run_n (z := false) 6 (fun K' hK' => hK' _ _ _ ?_) (by decide)
      clear hK' K'
      refine run_op (vex_shr (n := i) rfl rfl hw h64) rfl ?_
      refine run_n (z := false) 2 (fun K' hK' => hK' _ _ _ ?_) (by decide)
      clear hK' K'
      refine run_op (vex_ixa (j := 64 + i) rfl rfl hw2 (show 64 + i < 256 by omega) rfl rfl) rfl ?_
      refine run_set (vex_st1 (k' := 64 + i) rfl (Nat.zero_add _ |>.trans (Nat.mul_one _)) rfl rfl rfl rfl rfl (by intro a h; cases h) (by rw [List.length_set, bl_length]; omega)) rfl (by decide) rfl ?_
      refine run_end (z := false) fun K' hK' => hK' _ _ _ (hK _ _ _ ?_)
      clear hK' K' hK K
      refine vc_go (by kernel_rfl) fun K hK => hK _ _ _ ?_
      clear hK K
      exact ⟨64 - (i + 1), by omega, i + 1, rfl, by omega, isSt ⟨rfl, rfl, rfl, ii (wrapI (by omega) (by omega)), trivial⟩ ⟨rfl, rfl, blk32b (by omega) (by omega) (fun k hk => of_step hlt (hb1.trans (hb1' ▸ rfl)) (hb2.trans (hb2' ▸ rfl)) k hk), trivial⟩ rfl⟩
    · -- cond 0 t6 false
      refine vc_exit ?_
      refine vc_seq ?_
      refine vc_reg (by kernel_rfl) fun K hK => ?_
      refine run_rd (vex_ld32 rfl rfl) rfl ?_
      refine run_set (vex_st32 rfl rfl bits0_length rfl) rfl (by decide) rfl ?_
      refine run_end (z := false) fun K' hK' => hK' _ _ _ (hK _ _ _ ?_)
      clear hK' K' hK K
      refine vc_ret ⟨.inr rfl, ?_⟩
      have hi64 : i = 64 := by
        simp only [decide_eq_false_iff_not] at c0
        omega
      subst hi64
      change vresult _ [.cell 2 32] = _
      rw [vresult_one]
      refine Eq.trans (vres_32 (m := 1) (f := ofB a 64) rfl rfl) ?_
      rw [b8_of (of_end ha)]

theorem p81 (v : Nat) : Pure 81 [b8 v] (b8 (2 * v % 2 ^ 256)) := by
  refine pure_of Try.func81 rfl Try.ntmps81 (by kernel_rfl) (by simp [plainL, plain_b8]) (by simp) (plain_b8 _) ?_
  refine vc_seq ?_
  refine vc_go (by kernel_rfl) fun K hK => hK _ _ _ ?_
  clear hK K
  refine vc_seq ?_
  refine vc_go (by kernel_rfl) fun K hK => hK _ _ _ ?_
  clear hK K
  refine vc_seq ?_
  refine vc_seq ?_
  refine vc_go (by kernel_rfl) fun K hK => hK _ _ _ ?_
  clear hK K
  refine vc_block ?_
  refine vc_loop (fun n s => ∃ i : Nat, n = 256 - i ∧ i ≤ 256 ∧ 0 < i ∧ IsSt [(1, pt 0), (2, pt 1), (3, pt 2), (4, .int .i64 (i : Nat))] [(0, .cells (bl (fun k => v.testBit k)) 32 true), (1, .cells bits0 32 true), (2, .cells (bl (fun k => decide (k < i) && (decide (0 < k) && v.testBit (k - 1)))) 32 true)] 3 s) 255 ?_ ?_
  · exact ⟨1, rfl, by decide, by decide, isSt ⟨rfl, rfl, rfl, rfl, trivial⟩ ⟨rfl, rfl, blk0 (fun k hk => by cases k <;> simp), trivial⟩ rfl⟩
  · rintro n s ⟨i, hn, hi, h0, t, h, rfl⟩
    refine vc_seq ?_
    refine vc_seq ?_
    refine vc_go (by kernel_rfl) fun K hK => hK _ _ _ ?_
    clear hK K
    refine vc_cond rfl (fun c0 => ?_) (fun c0 => ?_)
    · -- cond 0 t6 true
      refine vc_skip ?_
      refine vc_seq ?_
      refine vc_block ?_
      have hlt : i < 256 := by
        simp only [decide_eq_true_eq] at c0
        omega
      have hw : IntKind.i64.wrap (((i : Nat) : Int) - 1) = ((i - 1 : Nat) : Int) := by rw [wrapI (by omega) (by omega)]; omega
      refine vc_reg (by kernel_rfl) fun K hK => ?_
      refine run_n (z := false) 3 (fun K' hK' => hK' _ _ _ ?_) (by decide)
      clear hK' K'
      refine run_op (vex_ixa (j := i - 1) rfl rfl hw (show i - 1 < 256 by omega) rfl rfl) rfl ?_
      refine run_rd (vex_ld1 (k' := i - 1) rfl (Nat.zero_add _ |>.trans (Nat.mul_one _)) rfl rfl (bl_get _ (by omega))) rfl ?_
      refine run_op (vex_ixa (j := i) rfl rfl rfl (show i < 256 by omega) rfl rfl) rfl ?_
      refine run_set (vex_st1 (k' := i) rfl (Nat.zero_add _ |>.trans (Nat.mul_one _)) rfl rfl rfl rfl rfl (by intro a h; cases h) (by rw [bl_length]; omega)) rfl (by decide) rfl ?_
      refine run_end (z := false) fun K' hK' => hK' _ _ _ (hK _ _ _ ?_)
      clear hK' K' hK K
      refine vc_go (by kernel_rfl) fun K hK => hK _ _ _ ?_
      clear hK K
      exact ⟨256 - (i + 1), by omega, i + 1, rfl, by omega, by omega, isSt ⟨rfl, rfl, rfl, ii (wrapI (by omega) (by omega)), trivial⟩ ⟨rfl, rfl, blk32 hlt (fun k hk => pre_step (g := fun k => decide (0 < k) && v.testBit (k - 1)) (by rw [decide_eq_true h0]; rfl) k hk), trivial⟩ rfl⟩
    · -- cond 0 t6 false
      refine vc_exit ?_
      refine vc_seq ?_
      refine vc_reg (by kernel_rfl) fun K hK => ?_
      refine run_rd (vex_ld32 rfl rfl) rfl ?_
      refine run_set (vex_st32 rfl rfl bits0_length rfl) rfl (by decide) rfl ?_
      refine run_end (z := false) fun K' hK' => hK' _ _ _ (hK _ _ _ ?_)
      clear hK' K' hK K
      refine vc_ret ⟨.inr rfl, ?_⟩
      have hi64 : i = 256 := by
        simp only [decide_eq_false_iff_not] at c0
        omega
      subst hi64
      change vresult _ [.cell 2 32] = _
      rw [vresult_one]
      refine Eq.trans (vres_32 (m := 1) (f := fun k => decide (k < 256) && (decide (0 < k) && v.testBit (k - 1))) rfl rfl) ?_
      rw [b8_of fun k hk => (pre_end (g := fun k => decide (0 < k) && v.testBit (k - 1)) k hk).trans (twice_bit v k hk)]

theorem p32 {x y : Nat} (hx : x < 2 ^ 256) (hy : y < 2 ^ 256) : Pure 32 [b8 x, b8 y] (.bool (decide (x < y))) := by
  refine pure_of Try.func32 rfl Try.ntmps32 (by kernel_rfl) (by simp [plainL, plain_b8]) (by simp) rfl ?_
  refine vc_seq ?_
  refine vc_go (by kernel_rfl) fun K hK => hK _ _ _ ?_
  clear hK K
  refine vc_seq ?_
  refine vc_seq ?_
  refine vc_go (by kernel_rfl) fun K hK => hK _ _ _ ?_
  clear hK K
  refine vc_block ?_
  refine vc_loop (fun n s => ∃ a : Nat, n = a ∧ a ≤ 256 ∧ x / 2 ^ a = y / 2 ^ a ∧ IsSt [(2, pt 0), (3, pt 1), (4, .bool false), (5, .int .i64 ((a : Int) - 1))] [(0, .cells (bl (fun k => x.testBit k)) 32 true), (1, .cells (bl (fun k => y.testBit k)) 32 true)] 2 s) 256 ?_ ?_
  · exact ⟨256, rfl, by decide, by rw [Nat.div_eq_of_lt hx, Nat.div_eq_of_lt hy], isSt ⟨rfl, rfl, rfl, rfl, trivial⟩ ⟨rfl, rfl, trivial⟩ rfl⟩
  · rintro n s ⟨a, hn, ha, he, t, h, rfl⟩
    refine vc_seq ?_
    refine vc_seq ?_
    refine vc_go (by kernel_rfl) fun K hK => hK _ _ _ ?_
    clear hK K
    refine vc_cond rfl (fun c0 => ?_) (fun c0 => ?_)
    · -- cond 0 t7 true
      refine vc_skip ?_
      refine vc_seq ?_
      refine vc_block ?_
      refine vc_seq ?_
      have h0 : 0 < a := by
        simp only [decide_eq_true_eq] at c0
        omega
      obtain ⟨i, rfl⟩ : ∃ i, a = i + 1 := ⟨a - 1, by omega⟩
      refine refocus [(2, pt 0), (3, pt 1), (4, .bool false), (5, .int .i64 ((i : Nat)))] [(0, .cells (bl (fun k => x.testBit k)) 32 true), (1, .cells (bl (fun k => y.testBit k)) 32 true)] 2 ⟨rfl, rfl, rfl, ii (by omega), trivial⟩ ⟨rfl, rfl, trivial⟩ rfl fun t h => ?_
      refine vc_regD [] (by kernel_rfl) (by kernel_rfl) fun K hK => ?_
      refine runD_n (z := false) 1 (fun K' hK' => hK' _ _ _ _ ?_) (by decide)
      clear hK' K'
      refine runD_op (vex_ixa (j := i) rfl rfl rfl (show i < 256 by omega) rfl rfl) rfl ?_
      refine runD_rd (vex_ld1 (k' := i) rfl (Nat.zero_add _ |>.trans (Nat.mul_one _)) rfl rfl (bl_get _ (by omega))) rfl rfl ?_
      refine runD_n (z := false) 1 (fun K' hK' => hK' _ _ _ _ ?_) (by decide)
      clear hK' K'
      refine runD_op (vex_ixa (j := i) rfl rfl rfl (show i < 256 by omega) rfl rfl) rfl ?_
      refine runD_rd (vex_ld1 (k' := i) rfl (Nat.zero_add _ |>.trans (Nat.mul_one _)) rfl rfl (bl_get _ (by omega))) rfl rfl ?_
      refine runD_end (z := false) fun K' hK' => hK' _ _ _ _ (hK _ _ _ ?_)
      clear hK' K' hK K
      refine vc_cond rfl (fun c1 => ?_) (fun c1 => ?_)
      · -- cond 1 t16 true
        refine vc_seq ?_
        refine vc_reg (by kernel_rfl) fun K hK => ?_
        refine run_n (z := false) 1 (fun K' hK' => hK' _ _ _ ?_) (by decide)
        clear hK' K'
        refine run_op (vex_ixa (j := i) rfl rfl rfl (show i < 256 by omega) rfl rfl) rfl ?_
        refine run_rd (vex_ld1 (k' := i) rfl (Nat.zero_add _ |>.trans (Nat.mul_one _)) rfl rfl (bl_get _ (by omega))) rfl ?_
        refine run_end (z := false) fun K' hK' => hK' _ _ _ (hK _ _ _ ?_)
        clear hK' K' hK K
        refine vc_ret ⟨.inr rfl, ?_⟩
        rw [less_bit he (by simpa using c1)]
        rfl
      · -- cond 1 t16 false
        refine vc_skip ?_
        refine vc_go (by kernel_rfl) fun K hK => hK _ _ _ ?_
        clear hK K
        have hsame := same_bit he (by simpa using c1)
        exact ⟨i, by omega, i, rfl, by omega, hsame, isSt ⟨rfl, rfl, rfl, ii (wrapI (by omega) (by omega)), trivial⟩ ⟨rfl, rfl, trivial⟩ rfl⟩
    · -- cond 0 t7 false
      refine vc_exit ?_
      refine vc_seq ?_
      refine vc_go (by kernel_rfl) fun K hK => hK _ _ _ ?_
      clear hK K
      refine vc_ret ⟨.inr rfl, ?_⟩
      have ha0 : a = 0 := by
        simp only [decide_eq_false_iff_not] at c0
        omega
      subst ha0
      rw [Nat.pow_zero, Nat.div_one, Nat.div_one] at he
      rw [he, decide_eq_false (Nat.lt_irrefl y)]
      rfl
end Go.Proofs.Ytdfkcijholopoaa.Vm
