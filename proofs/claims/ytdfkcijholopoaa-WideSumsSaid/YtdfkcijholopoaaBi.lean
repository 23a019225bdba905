/- WideSums: sums, differences, products, order. -/
import Derived.Test.YtdfkcijholopoaaBg
namespace Go.Proofs.Ytdfkcijholopoaa.Vm
open Go Go.RowKit
set_option maxRecDepth 10000
set_option linter.unusedSimpArgs false
set_option linter.unusedVariables false

theorem p26n {v : Nat} (hv : v < 2 ^ 256) (h : ¬ v < 2 ^ 128) : Pure 26 [b8 v] (.tuple #[wd (v % 2 ^ 128), .bool false]) := by
  have h26 := p26 hv
  rw [decide_eq_false h] at h26
  exact h26
theorem cmpW_m {a b : Nat} (h : a < b) : cmpW a b = -1 := if_pos h
theorem cmpW_z (a : Nat) : cmpW a a = 0 := cmpW_eq.2 rfl
theorem cmpW_p {a b : Nat} (h : b < a) : cmpW a b = 1 := by
  unfold cmpW
  rw [if_neg (by omega), if_neg (by omega)]
theorem of_ne (x : Int) : (!(((0 : Int) == 0) && (x == x))) = false := by simp


theorem p6LS {a b : Nat} (ha : a < 2 ^ 128) (hb : b < 2 ^ 128) (ho : a < b) (hs : a + b < 2 ^ 128) : Pure 6 [wd a, wd b] (.bool true) := by
  have h30 : Pure 30 [wd a, wd b] _ := p30 a b ha hb
  rw [if_pos hs] at h30
  have h36 : Pure 36 [wd a, wd b] _ := p36 a b ha hb
  rw [if_pos (by omega)] at h36
  have l1 : decide (a < b) = true := by rw [decide_eq_true_eq]; omega
  have l2 : decide (b < a) = false := by rw [decide_eq_false_iff_not]; omega
  have hc : (cmpW a b != -1) = false := by rw [cmpW_m ho]; rfl
  have la : a % 2 ^ 64 < 2 ^ 64 := Nat.mod_lt _ (by decide)
  have lb2 : b % 2 ^ 64 < 2 ^ 64 := Nat.mod_lt _ (by decide)
  have lab : a % 2 ^ 64 * (b % 2 ^ 64) < 2 ^ 128 := Nat.lt_of_lt_of_le (mul_lt la lb2) (by decide)
  refine pure_of Try.func6 rfl Try.ntmps6 (by kernel_rfl) rfl (by simp) rfl ?_
  refine vc_seq ?_
  refine vc_go (by kernel_rfl) fun K hK => hK _ _ _ ?_
  clear hK K
  refine vc_seq ?_
  refine vc_seq ?_
  refine vc_reg (by kernel_rfl) fun K hK => ?_
  refine run_call (p21) rfl rfl rfl rfl ?_
  refine run_end (z := false) fun K' hK' => hK' _ _ _ (hK _ _ _ ?_)
  clear hK' K' hK K
  refine vc_cond (t := false) rfl (fun h => by cases h) (fun _ => ?_)
  refine vc_skip ?_
  refine vc_seq ?_
  refine vc_regD [(1, 2), (0, 4), (1, 4), (2, 4), (3, 4), (0, 5), (1, 5), (2, 5), (3, 5), (4, 5)] (by kernel_rfl) (by kernel_rfl) fun K hK => ?_
  refine runD_n (z := false) 1 (fun K' hK' => hK' _ _ _ _ ?_) (by decide)
  clear hK' K'
  refine runD_call (p25 ha) rfl rfl rfl rfl ?_
  refine runD_n (z := false) 1 (fun K' hK' => hK' _ _ _ _ ?_) (by decide)
  clear hK' K'
  refine runD_call (p25 hb) rfl rfl rfl rfl ?_
  refine runD_n (z := false) 2 (fun K' hK' => hK' _ _ _ _ ?_) (by decide)
  clear hK' K'
  refine runD_set (vex_st32 rfl rfl bits0_length rfl) rfl (by decide) rfl rfl ?_
  refine runD_set (vex_st32 rfl rfl bits0_length rfl) rfl (by decide) rfl rfl ?_
  refine runD_end (z := false) fun K' hK' => hK' _ _ _ _ (hK _ _ _ ?_)
  clear hK' K' hK K
  refine vc_seq ?_
  refine vc_regD [(3, 5), (1, 11), (3, 11), (5, 11), (6, 11), (7, 11)] (by kernel_rfl) (by kernel_rfl) fun K hK => ?_
  refine runD_n (z := false) 3 (fun K' hK' => hK' _ _ _ _ ?_) (by decide)
  clear hK' K'
  refine runD_call (p25s la) rfl rfl rfl rfl ?_
  refine runD_n (z := false) 2 (fun K' hK' => hK' _ _ _ _ ?_) (by decide)
  clear hK' K'
  refine runD_call (p31s (Nat.lt_trans la (by decide)) lb2) rfl rfl rfl rfl ?_
  refine runD_call (p26w lab) rfl rfl rfl rfl ?_
  refine runD_end (z := false) fun K' hK' => hK' _ _ _ _ (hK _ _ _ ?_)
  clear hK' K' hK K
  refine vc_seq ?_
  refine vc_go (by kernel_rfl) fun K hK => hK _ _ _ ?_
  clear hK K
  refine vc_seq ?_
  refine vc_seq ?_
  refine vc_reg (by kernel_rfl) fun K hK => ?_
  refine run_rd (vex_ld32 rfl rfl) rfl ?_
  refine run_rd (vex_ld32 rfl rfl) rfl ?_
  refine run_call (p32 (x := a) (y := b) (by omega) (by omega)) rfl rfl rfl rfl ?_
  refine run_end (z := false) fun K' hK' => hK' _ _ _ (hK _ _ _ ?_)
  clear hK' K' hK K
  refine vc_cond (t := true) (bb l1) (fun _ => ?_) (fun h => by cases h)
  refine vc_go (by kernel_rfl) fun K hK => hK _ _ _ ?_
  clear hK K
  refine vc_seq ?_
  refine vc_seq ?_
  refine vc_reg (by kernel_rfl) fun K hK => ?_
  refine run_rd (vex_ld32 rfl rfl) rfl ?_
  refine run_rd (vex_ld32 rfl rfl) rfl ?_
  refine run_call (p32 (x := b) (y := a) (by omega) (by omega)) rfl rfl rfl rfl ?_
  refine run_end (z := false) fun K' hK' => hK' _ _ _ (hK _ _ _ ?_)
  clear hK' K' hK K
  refine vc_cond (t := false) (bb l2) (fun h => by cases h) (fun _ => ?_)
  refine vc_skip ?_
  refine vc_seq ?_
  refine vc_seq ?_
  refine vc_regD [(4, 5), (17, 19)] (by kernel_rfl) (by kernel_rfl) fun K hK => ?_
  refine runD_n (z := false) 4 (fun K' hK' => hK' _ _ _ _ ?_) (by decide)
  clear hK' K'
  refine runD_call (p33 la lb2) rfl rfl rfl rfl ?_
  refine runD_n (z := false) 3 (fun K' hK' => hK' _ _ _ _ ?_) (by decide)
  clear hK' K'
  refine W_known 45 (b := false) (bb (wd_ne (a % 2 ^ 64 * (b % 2 ^ 64)))) ?_
  refine runD_n (z := false) 2 (fun K' hK' => hK' _ _ _ _ ?_) (by decide)
  clear hK' K'
  refine runD_call (p29 a b) rfl rfl rfl rfl ?_
  refine runD_n (z := false) 4 (fun K' hK' => hK' _ _ _ _ ?_) (by decide)
  clear hK' K'
  refine W_known 52 (b := false) (bb hc) ?_
  refine runD_n (z := false) 2 (fun K' hK' => hK' _ _ _ _ ?_) (by decide)
  clear hK' K'
  refine runD_call (p34 _) rfl rfl rfl rfl ?_
  refine runD_end (z := false) fun K' hK' => hK' _ _ _ _ (hK _ _ _ ?_)
  clear hK' K' hK K
  refine vc_cond (t := false) (bb (of_ne _)) (fun h => by cases h) (fun _ => ?_)
  refine vc_skip ?_
  refine vc_seq ?_
  refine vc_reg (by kernel_rfl) fun K hK => ?_
  refine run_n (z := false) 2 (fun K' hK' => hK' _ _ _ ?_) (by decide)
  clear hK' K'
  refine run_call (h30) rfl rfl rfl rfl ?_
  refine run_end (z := false) fun K' hK' => hK' _ _ _ (hK _ _ _ ?_)
  clear hK' K' hK K
  refine vc_seq ?_
  refine vc_reg (by kernel_rfl) fun K hK => ?_
  refine run_rd (vex_ld32 rfl rfl) rfl ?_
  refine run_rd (vex_ld32 rfl rfl) rfl ?_
  refine run_call (p35s (x := a) (y := b) (by omega)) rfl rfl rfl rfl ?_
  refine run_call (p26w hs) rfl rfl rfl rfl ?_
  refine run_end (z := false) fun K' hK' => hK' _ _ _ (hK _ _ _ ?_)
  clear hK' K' hK K
  refine vc_seq ?_
  refine vc_seq ?_
  refine vc_reg (by kernel_rfl) fun K hK => ?_
  refine run_n (z := false) 13 (fun K' hK' => hK' _ _ _ ?_) (by decide)
  clear hK' K'
  refine vgo_known 86 (b := false) (bb (wd_ne (a + b))) ?_
  refine run_end (z := false) fun K' hK' => hK' _ _ _ (hK _ _ _ ?_)
  clear hK' K' hK K
  refine vc_cond (t := false) rfl (fun h => by cases h) (fun _ => ?_)
  refine vc_skip ?_
  refine vc_seq ?_
  refine vc_reg (by kernel_rfl) fun K hK => ?_
  refine run_n (z := false) 2 (fun K' hK' => hK' _ _ _ ?_) (by decide)
  clear hK' K'
  refine run_call (h36) rfl rfl rfl rfl ?_
  refine run_end (z := false) fun K' hK' => hK' _ _ _ (hK _ _ _ ?_)
  clear hK' K' hK K
  refine vc_seq ?_
  refine vc_seq ?_
  refine vc_go (by kernel_rfl) fun K hK => hK _ _ _ ?_
  clear hK K
  refine vc_cond (t := true) rfl (fun _ => ?_) (fun h => by cases h)
  refine vc_seq ?_
  refine vc_go (by kernel_rfl) fun K hK => hK _ _ _ ?_
  clear hK K
  exact vc_ret ⟨.inr rfl, rfl⟩

theorem p6LN {a b : Nat} (ha : a < 2 ^ 128) (hb : b < 2 ^ 128) (ho : a < b) (hs : ¬ a + b < 2 ^ 128) : Pure 6 [wd a, wd b] (.bool true) := by
  have h30 : Pure 30 [wd a, wd b] _ := p30 a b ha hb
  rw [if_neg hs] at h30
  have h36 : Pure 36 [wd a, wd b] _ := p36 a b ha hb
  rw [if_pos (by omega)] at h36
  have l1 : decide (a < b) = true := by rw [decide_eq_true_eq]; omega
  have l2 : decide (b < a) = false := by rw [decide_eq_false_iff_not]; omega
  have hc : (cmpW a b != -1) = false := by rw [cmpW_m ho]; rfl
  have la : a % 2 ^ 64 < 2 ^ 64 := Nat.mod_lt _ (by decide)
  have lb2 : b % 2 ^ 64 < 2 ^ 64 := Nat.mod_lt _ (by decide)
  have lab : a % 2 ^ 64 * (b % 2 ^ 64) < 2 ^ 128 := Nat.lt_of_lt_of_le (mul_lt la lb2) (by decide)
  refine pure_of Try.func6 rfl Try.ntmps6 (by kernel_rfl) rfl (by simp) rfl ?_
  refine vc_seq ?_
  refine vc_go (by kernel_rfl) fun K hK => hK _ _ _ ?_
  clear hK K
  refine vc_seq ?_
  refine vc_seq ?_
  refine vc_reg (by kernel_rfl) fun K hK => ?_
  refine run_call (p21) rfl rfl rfl rfl ?_
  refine run_end (z := false) fun K' hK' => hK' _ _ _ (hK _ _ _ ?_)
  clear hK' K' hK K
  refine vc_cond (t := false) rfl (fun h => by cases h) (fun _ => ?_)
  refine vc_skip ?_
  refine vc_seq ?_
  refine vc_regD [(1, 2), (0, 4), (1, 4), (2, 4), (3, 4), (0, 5), (1, 5), (2, 5), (3, 5), (4, 5)] (by kernel_rfl) (by kernel_rfl) fun K hK => ?_
  refine runD_n (z := false) 1 (fun K' hK' => hK' _ _ _ _ ?_) (by decide)
  clear hK' K'
  refine runD_call (p25 ha) rfl rfl rfl rfl ?_
  refine runD_n (z := false) 1 (fun K' hK' => hK' _ _ _ _ ?_) (by decide)
  clear hK' K'
  refine runD_call (p25 hb) rfl rfl rfl rfl ?_
  refine runD_n (z := false) 2 (fun K' hK' => hK' _ _ _ _ ?_) (by decide)
  clear hK' K'
  refine runD_set (vex_st32 rfl rfl bits0_length rfl) rfl (by decide) rfl rfl ?_
  refine runD_set (vex_st32 rfl rfl bits0_length rfl) rfl (by decide) rfl rfl ?_
  refine runD_end (z := false) fun K' hK' => hK' _ _ _ _ (hK _ _ _ ?_)
  clear hK' K' hK K
  refine vc_seq ?_
  refine vc_regD [(3, 5), (1, 11), (3, 11), (5, 11), (6, 11), (7, 11)] (by kernel_rfl) (by kernel_rfl) fun K hK => ?_
  refine runD_n (z := false) 3 (fun K' hK' => hK' _ _ _ _ ?_) (by decide)
  clear hK' K'
  refine runD_call (p25s la) rfl rfl rfl rfl ?_
  refine runD_n (z := false) 2 (fun K' hK' => hK' _ _ _ _ ?_) (by decide)
  clear hK' K'
  refine runD_call (p31s (Nat.lt_trans la (by decide)) lb2) rfl rfl rfl rfl ?_
  refine runD_call (p26w lab) rfl rfl rfl rfl ?_
  refine runD_end (z := false) fun K' hK' => hK' _ _ _ _ (hK _ _ _ ?_)
  clear hK' K' hK K
  refine vc_seq ?_
  refine vc_go (by kernel_rfl) fun K hK => hK _ _ _ ?_
  clear hK K
  refine vc_seq ?_
  refine vc_seq ?_
  refine vc_reg (by kernel_rfl) fun K hK => ?_
  refine run_rd (vex_ld32 rfl rfl) rfl ?_
  refine run_rd (vex_ld32 rfl rfl) rfl ?_
  refine run_call (p32 (x := a) (y := b) (by omega) (by omega)) rfl rfl rfl rfl ?_
  refine run_end (z := false) fun K' hK' => hK' _ _ _ (hK _ _ _ ?_)
  clear hK' K' hK K
  refine vc_cond (t := true) (bb l1) (fun _ => ?_) (fun h => by cases h)
  refine vc_go (by kernel_rfl) fun K hK => hK _ _ _ ?_
  clear hK K
  refine vc_seq ?_
  refine vc_seq ?_
  refine vc_reg (by kernel_rfl) fun K hK => ?_
  refine run_rd (vex_ld32 rfl rfl) rfl ?_
  refine run_rd (vex_ld32 rfl rfl) rfl ?_
  refine run_call (p32 (x := b) (y := a) (by omega) (by omega)) rfl rfl rfl rfl ?_
  refine run_end (z := false) fun K' hK' => hK' _ _ _ (hK _ _ _ ?_)
  clear hK' K' hK K
  refine vc_cond (t := false) (bb l2) (fun h => by cases h) (fun _ => ?_)
  refine vc_skip ?_
  refine vc_seq ?_
  refine vc_seq ?_
  refine vc_regD [(4, 5), (17, 19)] (by kernel_rfl) (by kernel_rfl) fun K hK => ?_
  refine runD_n (z := false) 4 (fun K' hK' => hK' _ _ _ _ ?_) (by decide)
  clear hK' K'
  refine runD_call (p33 la lb2) rfl rfl rfl rfl ?_
  refine runD_n (z := false) 3 (fun K' hK' => hK' _ _ _ _ ?_) (by decide)
  clear hK' K'
  refine W_known 45 (b := false) (bb (wd_ne (a % 2 ^ 64 * (b % 2 ^ 64)))) ?_
  refine runD_n (z := false) 2 (fun K' hK' => hK' _ _ _ _ ?_) (by decide)
  clear hK' K'
  refine runD_call (p29 a b) rfl rfl rfl rfl ?_
  refine runD_n (z := false) 4 (fun K' hK' => hK' _ _ _ _ ?_) (by decide)
  clear hK' K'
  refine W_known 52 (b := false) (bb hc) ?_
  refine runD_n (z := false) 2 (fun K' hK' => hK' _ _ _ _ ?_) (by decide)
  clear hK' K'
  refine runD_call (p34 _) rfl rfl rfl rfl ?_
  refine runD_end (z := false) fun K' hK' => hK' _ _ _ _ (hK _ _ _ ?_)
  clear hK' K' hK K
  refine vc_cond (t := false) (bb (of_ne _)) (fun h => by cases h) (fun _ => ?_)
  refine vc_skip ?_
  refine vc_seq ?_
  refine vc_reg (by kernel_rfl) fun K hK => ?_
  refine run_n (z := false) 2 (fun K' hK' => hK' _ _ _ ?_) (by decide)
  clear hK' K'
  refine run_call (h30) rfl rfl rfl rfl ?_
  refine run_end (z := false) fun K' hK' => hK' _ _ _ (hK _ _ _ ?_)
  clear hK' K' hK K
  refine vc_seq ?_
  refine vc_reg (by kernel_rfl) fun K hK => ?_
  refine run_rd (vex_ld32 rfl rfl) rfl ?_
  refine run_rd (vex_ld32 rfl rfl) rfl ?_
  refine run_call (p35s (x := a) (y := b) (by omega)) rfl rfl rfl rfl ?_
  refine run_call (p26n (by omega) hs) rfl rfl rfl rfl ?_
  refine run_end (z := false) fun K' hK' => hK' _ _ _ (hK _ _ _ ?_)
  clear hK' K' hK K
  refine vc_seq ?_
  refine vc_seq ?_
  refine vc_go (by kernel_rfl) fun K hK => hK _ _ _ ?_
  clear hK K
  refine vc_cond (t := false) rfl (fun h => by cases h) (fun _ => ?_)
  refine vc_skip ?_
  refine vc_seq ?_
  refine vc_reg (by kernel_rfl) fun K hK => ?_
  refine run_n (z := false) 2 (fun K' hK' => hK' _ _ _ ?_) (by decide)
  clear hK' K'
  refine run_call (h36) rfl rfl rfl rfl ?_
  refine run_end (z := false) fun K' hK' => hK' _ _ _ (hK _ _ _ ?_)
  clear hK' K' hK K
  refine vc_seq ?_
  refine vc_seq ?_
  refine vc_go (by kernel_rfl) fun K hK => hK _ _ _ ?_
  clear hK K
  refine vc_cond (t := true) rfl (fun _ => ?_) (fun h => by cases h)
  refine vc_seq ?_
  refine vc_go (by kernel_rfl) fun K hK => hK _ _ _ ?_
  clear hK K
  exact vc_ret ⟨.inr rfl, rfl⟩

theorem p6ES {a b : Nat} (ha : a < 2 ^ 128) (hb : b < 2 ^ 128) (ho : a = b) (hs : a + b < 2 ^ 128) : Pure 6 [wd a, wd b] (.bool true) := by
  have h30 : Pure 30 [wd a, wd b] _ := p30 a b ha hb
  rw [if_pos hs] at h30
  have h36 : Pure 36 [wd a, wd b] _ := p36 a b ha hb
  rw [if_neg (by omega)] at h36
  have l1 : decide (a < b) = false := by rw [decide_eq_false_iff_not]; omega
  have l2 : decide (b < a) = false := by rw [decide_eq_false_iff_not]; omega
  have hc : (cmpW a b != 0) = false := by rw [ho, cmpW_z]; rfl
  have la : a % 2 ^ 64 < 2 ^ 64 := Nat.mod_lt _ (by decide)
  have lb2 : b % 2 ^ 64 < 2 ^ 64 := Nat.mod_lt _ (by decide)
  have lab : a % 2 ^ 64 * (b % 2 ^ 64) < 2 ^ 128 := Nat.lt_of_lt_of_le (mul_lt la lb2) (by decide)
  refine pure_of Try.func6 rfl Try.ntmps6 (by kernel_rfl) rfl (by simp) rfl ?_
  refine vc_seq ?_
  refine vc_go (by kernel_rfl) fun K hK => hK _ _ _ ?_
  clear hK K
  refine vc_seq ?_
  refine vc_seq ?_
  refine vc_reg (by kernel_rfl) fun K hK => ?_
  refine run_call (p21) rfl rfl rfl rfl ?_
  refine run_end (z := false) fun K' hK' => hK' _ _ _ (hK _ _ _ ?_)
  clear hK' K' hK K
  refine vc_cond (t := false) rfl (fun h => by cases h) (fun _ => ?_)
  refine vc_skip ?_
  refine vc_seq ?_
  refine vc_regD [(1, 2), (0, 4), (1, 4), (2, 4), (3, 4), (0, 5), (1, 5), (2, 5), (3, 5), (4, 5)] (by kernel_rfl) (by kernel_rfl) fun K hK => ?_
  refine runD_n (z := false) 1 (fun K' hK' => hK' _ _ _ _ ?_) (by decide)
  clear hK' K'
  refine runD_call (p25 ha) rfl rfl rfl rfl ?_
  refine runD_n (z := false) 1 (fun K' hK' => hK' _ _ _ _ ?_) (by decide)
  clear hK' K'
  refine runD_call (p25 hb) rfl rfl rfl rfl ?_
  refine runD_n (z := false) 2 (fun K' hK' => hK' _ _ _ _ ?_) (by decide)
  clear hK' K'
  refine runD_set (vex_st32 rfl rfl bits0_length rfl) rfl (by decide) rfl rfl ?_
  refine runD_set (vex_st32 rfl rfl bits0_length rfl) rfl (by decide) rfl rfl ?_
  refine runD_end (z := false) fun K' hK' => hK' _ _ _ _ (hK _ _ _ ?_)
  clear hK' K' hK K
  refine vc_seq ?_
  refine vc_regD [(3, 5), (1, 11), (3, 11), (5, 11), (6, 11), (7, 11)] (by kernel_rfl) (by kernel_rfl) fun K hK => ?_
  refine runD_n (z := false) 3 (fun K' hK' => hK' _ _ _ _ ?_) (by decide)
  clear hK' K'
  refine runD_call (p25s la) rfl rfl rfl rfl ?_
  refine runD_n (z := false) 2 (fun K' hK' => hK' _ _ _ _ ?_) (by decide)
  clear hK' K'
  refine runD_call (p31s (Nat.lt_trans la (by decide)) lb2) rfl rfl rfl rfl ?_
  refine runD_call (p26w lab) rfl rfl rfl rfl ?_
  refine runD_end (z := false) fun K' hK' => hK' _ _ _ _ (hK _ _ _ ?_)
  clear hK' K' hK K
  refine vc_seq ?_
  refine vc_go (by kernel_rfl) fun K hK => hK _ _ _ ?_
  clear hK K
  refine vc_seq ?_
  refine vc_seq ?_
  refine vc_reg (by kernel_rfl) fun K hK => ?_
  refine run_rd (vex_ld32 rfl rfl) rfl ?_
  refine run_rd (vex_ld32 rfl rfl) rfl ?_
  refine run_call (p32 (x := a) (y := b) (by omega) (by omega)) rfl rfl rfl rfl ?_
  refine run_end (z := false) fun K' hK' => hK' _ _ _ (hK _ _ _ ?_)
  clear hK' K' hK K
  refine vc_cond (t := false) (bb l1) (fun h => by cases h) (fun _ => ?_)
  refine vc_skip ?_
  refine vc_seq ?_
  refine vc_seq ?_
  refine vc_reg (by kernel_rfl) fun K hK => ?_
  refine run_rd (vex_ld32 rfl rfl) rfl ?_
  refine run_rd (vex_ld32 rfl rfl) rfl ?_
  refine run_call (p32 (x := b) (y := a) (by omega) (by omega)) rfl rfl rfl rfl ?_
  refine run_end (z := false) fun K' hK' => hK' _ _ _ (hK _ _ _ ?_)
  clear hK' K' hK K
  refine vc_cond (t := false) (bb l2) (fun h => by cases h) (fun _ => ?_)
  refine vc_skip ?_
  refine vc_seq ?_
  refine vc_seq ?_
  refine vc_regD [(4, 5), (17, 19)] (by kernel_rfl) (by kernel_rfl) fun K hK => ?_
  refine runD_n (z := false) 4 (fun K' hK' => hK' _ _ _ _ ?_) (by decide)
  clear hK' K'
  refine runD_call (p33 la lb2) rfl rfl rfl rfl ?_
  refine runD_n (z := false) 3 (fun K' hK' => hK' _ _ _ _ ?_) (by decide)
  clear hK' K'
  refine W_known 45 (b := false) (bb (wd_ne (a % 2 ^ 64 * (b % 2 ^ 64)))) ?_
  refine runD_n (z := false) 2 (fun K' hK' => hK' _ _ _ _ ?_) (by decide)
  clear hK' K'
  refine runD_call (p29 a b) rfl rfl rfl rfl ?_
  refine runD_n (z := false) 4 (fun K' hK' => hK' _ _ _ _ ?_) (by decide)
  clear hK' K'
  refine W_known 52 (b := false) (bb hc) ?_
  refine runD_n (z := false) 2 (fun K' hK' => hK' _ _ _ _ ?_) (by decide)
  clear hK' K'
  refine runD_call (p34 _) rfl rfl rfl rfl ?_
  refine runD_end (z := false) fun K' hK' => hK' _ _ _ _ (hK _ _ _ ?_)
  clear hK' K' hK K
  refine vc_cond (t := false) (bb (of_ne _)) (fun h => by cases h) (fun _ => ?_)
  refine vc_skip ?_
  refine vc_seq ?_
  refine vc_reg (by kernel_rfl) fun K hK => ?_
  refine run_n (z := false) 2 (fun K' hK' => hK' _ _ _ ?_) (by decide)
  clear hK' K'
  refine run_call (h30) rfl rfl rfl rfl ?_
  refine run_end (z := false) fun K' hK' => hK' _ _ _ (hK _ _ _ ?_)
  clear hK' K' hK K
  refine vc_seq ?_
  refine vc_reg (by kernel_rfl) fun K hK => ?_
  refine run_rd (vex_ld32 rfl rfl) rfl ?_
  refine run_rd (vex_ld32 rfl rfl) rfl ?_
  refine run_call (p35s (x := a) (y := b) (by omega)) rfl rfl rfl rfl ?_
  refine run_call (p26w hs) rfl rfl rfl rfl ?_
  refine run_end (z := false) fun K' hK' => hK' _ _ _ (hK _ _ _ ?_)
  clear hK' K' hK K
  refine vc_seq ?_
  refine vc_seq ?_
  refine vc_reg (by kernel_rfl) fun K hK => ?_
  refine run_n (z := false) 13 (fun K' hK' => hK' _ _ _ ?_) (by decide)
  clear hK' K'
  refine vgo_known 86 (b := false) (bb (wd_ne (a + b))) ?_
  refine run_end (z := false) fun K' hK' => hK' _ _ _ (hK _ _ _ ?_)
  clear hK' K' hK K
  refine vc_cond (t := false) rfl (fun h => by cases h) (fun _ => ?_)
  refine vc_skip ?_
  refine vc_seq ?_
  refine vc_reg (by kernel_rfl) fun K hK => ?_
  refine run_n (z := false) 2 (fun K' hK' => hK' _ _ _ ?_) (by decide)
  clear hK' K'
  refine run_call (h36) rfl rfl rfl rfl ?_
  refine run_end (z := false) fun K' hK' => hK' _ _ _ (hK _ _ _ ?_)
  clear hK' K' hK K
  refine vc_seq ?_
  refine vc_seq ?_
  refine vc_go (by kernel_rfl) fun K hK => hK _ _ _ ?_
  clear hK K
  refine vc_cond (t := false) rfl (fun h => by cases h) (fun _ => ?_)
  refine vc_skip ?_
  refine vc_seq ?_
  refine vc_reg (by kernel_rfl) fun K hK => ?_
  refine run_rd (vex_ld32 rfl rfl) rfl ?_
  refine run_rd (vex_ld32 rfl rfl) rfl ?_
  refine run_call (p37 (x := a) (y := b) (by omega)) rfl rfl rfl rfl ?_
  refine run_call (p26w (by omega)) rfl rfl rfl rfl ?_
  refine run_end (z := false) fun K' hK' => hK' _ _ _ (hK _ _ _ ?_)
  clear hK' K' hK K
  refine vc_seq ?_
  refine vc_go (by kernel_rfl) fun K hK => hK _ _ _ ?_
  clear hK K
  refine vc_ret ⟨.inr rfl, ?_⟩
  exact Eq.trans (b := some (.bool _)) rfl (fin_b (wd_eq (a - b)))

theorem p6EN {a b : Nat} (ha : a < 2 ^ 128) (hb : b < 2 ^ 128) (ho : a = b) (hs : ¬ a + b < 2 ^ 128) : Pure 6 [wd a, wd b] (.bool true) := by
  have h30 : Pure 30 [wd a, wd b] _ := p30 a b ha hb
  rw [if_neg hs] at h30
  have h36 : Pure 36 [wd a, wd b] _ := p36 a b ha hb
  rw [if_neg (by omega)] at h36
  have l1 : decide (a < b) = false := by rw [decide_eq_false_iff_not]; omega
  have l2 : decide (b < a) = false := by rw [decide_eq_false_iff_not]; omega
  have hc : (cmpW a b != 0) = false := by rw [ho, cmpW_z]; rfl
  have la : a % 2 ^ 64 < 2 ^ 64 := Nat.mod_lt _ (by decide)
  have lb2 : b % 2 ^ 64 < 2 ^ 64 := Nat.mod_lt _ (by decide)
  have lab : a % 2 ^ 64 * (b % 2 ^ 64) < 2 ^ 128 := Nat.lt_of_lt_of_le (mul_lt la lb2) (by decide)
  refine pure_of Try.func6 rfl Try.ntmps6 (by kernel_rfl) rfl (by simp) rfl ?_
  refine vc_seq ?_
  refine vc_go (by kernel_rfl) fun K hK => hK _ _ _ ?_
  clear hK K
  refine vc_seq ?_
  refine vc_seq ?_
  refine vc_reg (by kernel_rfl) fun K hK => ?_
  refine run_call (p21) rfl rfl rfl rfl ?_
  refine run_end (z := false) fun K' hK' => hK' _ _ _ (hK _ _ _ ?_)
  clear hK' K' hK K
  refine vc_cond (t := false) rfl (fun h => by cases h) (fun _ => ?_)
  refine vc_skip ?_
  refine vc_seq ?_
  refine vc_regD [(1, 2), (0, 4), (1, 4), (2, 4), (3, 4), (0, 5), (1, 5), (2, 5), (3, 5), (4, 5)] (by kernel_rfl) (by kernel_rfl) fun K hK => ?_
  refine runD_n (z := false) 1 (fun K' hK' => hK' _ _ _ _ ?_) (by decide)
  clear hK' K'
  refine runD_call (p25 ha) rfl rfl rfl rfl ?_
  refine runD_n (z := false) 1 (fun K' hK' => hK' _ _ _ _ ?_) (by decide)
  clear hK' K'
  refine runD_call (p25 hb) rfl rfl rfl rfl ?_
  refine runD_n (z := false) 2 (fun K' hK' => hK' _ _ _ _ ?_) (by decide)
  clear hK' K'
  refine runD_set (vex_st32 rfl rfl bits0_length rfl) rfl (by decide) rfl rfl ?_
  refine runD_set (vex_st32 rfl rfl bits0_length rfl) rfl (by decide) rfl rfl ?_
  refine runD_end (z := false) fun K' hK' => hK' _ _ _ _ (hK _ _ _ ?_)
  clear hK' K' hK K
  refine vc_seq ?_
  refine vc_regD [(3, 5), (1, 11), (3, 11), (5, 11), (6, 11), (7, 11)] (by kernel_rfl) (by kernel_rfl) fun K hK => ?_
  refine runD_n (z := false) 3 (fun K' hK' => hK' _ _ _ _ ?_) (by decide)
  clear hK' K'
  refine runD_call (p25s la) rfl rfl rfl rfl ?_
  refine runD_n (z := false) 2 (fun K' hK' => hK' _ _ _ _ ?_) (by decide)
  clear hK' K'
  refine runD_call (p31s (Nat.lt_trans la (by decide)) lb2) rfl rfl rfl rfl ?_
  refine runD_call (p26w lab) rfl rfl rfl rfl ?_
  refine runD_end (z := false) fun K' hK' => hK' _ _ _ _ (hK _ _ _ ?_)
  clear hK' K' hK K
  refine vc_seq ?_
  refine vc_go (by kernel_rfl) fun K hK => hK _ _ _ ?_
  clear hK K
  refine vc_seq ?_
  refine vc_seq ?_
  refine vc_reg (by kernel_rfl) fun K hK => ?_
  refine run_rd (vex_ld32 rfl rfl) rfl ?_
  refine run_rd (vex_ld32 rfl rfl) rfl ?_
  refine run_call (p32 (x := a) (y := b) (by omega) (by omega)) rfl rfl rfl rfl ?_
  refine run_end (z := false) fun K' hK' => hK' _ _ _ (hK _ _ _ ?_)
  clear hK' K' hK K
  refine vc_cond (t := false) (bb l1) (fun h => by cases h) (fun _ => ?_)
  refine vc_skip ?_
  refine vc_seq ?_
  refine vc_seq ?_
  refine vc_reg (by kernel_rfl) fun K hK => ?_
  refine run_rd (vex_ld32 rfl rfl) rfl ?_
  refine run_rd (vex_ld32 rfl rfl) rfl ?_
  refine run_call (p32 (x := b) (y := a) (by omega) (by omega)) rfl rfl rfl rfl ?_
  refine run_end (z := false) fun K' hK' => hK' _ _ _ (hK _ _ _ ?_)
  clear hK' K' hK K
  refine vc_cond (t := false) (bb l2) (fun h => by cases h) (fun _ => ?_)
  refine vc_skip ?_
  refine vc_seq ?_
  refine vc_seq ?_
  refine vc_regD [(4, 5), (17, 19)] (by kernel_rfl) (by kernel_rfl) fun K hK => ?_
  refine runD_n (z := false) 4 (fun K' hK' => hK' _ _ _ _ ?_) (by decide)
  clear hK' K'
  refine runD_call (p33 la lb2) rfl rfl rfl rfl ?_
  refine runD_n (z := false) 3 (fun K' hK' => hK' _ _ _ _ ?_) (by decide)
  clear hK' K'
  refine W_known 45 (b := false) (bb (wd_ne (a % 2 ^ 64 * (b % 2 ^ 64)))) ?_
  refine runD_n (z := false) 2 (fun K' hK' => hK' _ _ _ _ ?_) (by decide)
  clear hK' K'
  refine runD_call (p29 a b) rfl rfl rfl rfl ?_
  refine runD_n (z := false) 4 (fun K' hK' => hK' _ _ _ _ ?_) (by decide)
  clear hK' K'
  refine W_known 52 (b := false) (bb hc) ?_
  refine runD_n (z := false) 2 (fun K' hK' => hK' _ _ _ _ ?_) (by decide)
  clear hK' K'
  refine runD_call (p34 _) rfl rfl rfl rfl ?_
  refine runD_end (z := false) fun K' hK' => hK' _ _ _ _ (hK _ _ _ ?_)
  clear hK' K' hK K
  refine vc_cond (t := false) (bb (of_ne _)) (fun h => by cases h) (fun _ => ?_)
  refine vc_skip ?_
  refine vc_seq ?_
  refine vc_reg (by kernel_rfl) fun K hK => ?_
  refine run_n (z := false) 2 (fun K' hK' => hK' _ _ _ ?_) (by decide)
  clear hK' K'
  refine run_call (h30) rfl rfl rfl rfl ?_
  refine run_end (z := false) fun K' hK' => hK' _ _ _ (hK _ _ _ ?_)
  clear hK' K' hK K
  refine vc_seq ?_
  refine vc_reg (by kernel_rfl) fun K hK => ?_
  refine run_rd (vex_ld32 rfl rfl) rfl ?_
  refine run_rd (vex_ld32 rfl rfl) rfl ?_
  refine run_call (p35s (x := a) (y := b) (by omega)) rfl rfl rfl rfl ?_
  refine run_call (p26n (by omega) hs) rfl rfl rfl rfl ?_
  refine run_end (z := false) fun K' hK' => hK' _ _ _ (hK _ _ _ ?_)
  clear hK' K' hK K
  refine vc_seq ?_
  refine vc_seq ?_
  refine vc_go (by kernel_rfl) fun K hK => hK _ _ _ ?_
  clear hK K
  refine vc_cond (t := false) rfl (fun h => by cases h) (fun _ => ?_)
  refine vc_skip ?_
  refine vc_seq ?_
  refine vc_reg (by kernel_rfl) fun K hK => ?_
  refine run_n (z := false) 2 (fun K' hK' => hK' _ _ _ ?_) (by decide)
  clear hK' K'
  refine run_call (h36) rfl rfl rfl rfl ?_
  refine run_end (z := false) fun K' hK' => hK' _ _ _ (hK _ _ _ ?_)
  clear hK' K' hK K
  refine vc_seq ?_
  refine vc_seq ?_
  refine vc_go (by kernel_rfl) fun K hK => hK _ _ _ ?_
  clear hK K
  refine vc_cond (t := false) rfl (fun h => by cases h) (fun _ => ?_)
  refine vc_skip ?_
  refine vc_seq ?_
  refine vc_reg (by kernel_rfl) fun K hK => ?_
  refine run_rd (vex_ld32 rfl rfl) rfl ?_
  refine run_rd (vex_ld32 rfl rfl) rfl ?_
  refine run_call (p37 (x := a) (y := b) (by omega)) rfl rfl rfl rfl ?_
  refine run_call (p26w (by omega)) rfl rfl rfl rfl ?_
  refine run_end (z := false) fun K' hK' => hK' _ _ _ (hK _ _ _ ?_)
  clear hK' K' hK K
  refine vc_seq ?_
  refine vc_go (by kernel_rfl) fun K hK => hK _ _ _ ?_
  clear hK K
  refine vc_ret ⟨.inr rfl, ?_⟩
  exact Eq.trans (b := some (.bool _)) rfl (fin_b (wd_eq (a - b)))

theorem p6GS {a b : Nat} (ha : a < 2 ^ 128) (hb : b < 2 ^ 128) (ho : b < a) (hs : a + b < 2 ^ 128) : Pure 6 [wd a, wd b] (.bool true) := by
  have h30 : Pure 30 [wd a, wd b] _ := p30 a b ha hb
  rw [if_pos hs] at h30
  have h36 : Pure 36 [wd a, wd b] _ := p36 a b ha hb
  rw [if_neg (by omega)] at h36
  have l1 : decide (a < b) = false := by rw [decide_eq_false_iff_not]; omega
  have l2 : decide (b < a) = true := by rw [decide_eq_true_eq]; omega
  have hc : (cmpW a b != 1) = false := by rw [cmpW_p ho]; rfl
  have la : a % 2 ^ 64 < 2 ^ 64 := Nat.mod_lt _ (by decide)
  have lb2 : b % 2 ^ 64 < 2 ^ 64 := Nat.mod_lt _ (by decide)
  have lab : a % 2 ^ 64 * (b % 2 ^ 64) < 2 ^ 128 := Nat.lt_of_lt_of_le (mul_lt la lb2) (by decide)
  refine pure_of Try.func6 rfl Try.ntmps6 (by kernel_rfl) rfl (by simp) rfl ?_
  refine vc_seq ?_
  refine vc_go (by kernel_rfl) fun K hK => hK _ _ _ ?_
  clear hK K
  refine vc_seq ?_
  refine vc_seq ?_
  refine vc_reg (by kernel_rfl) fun K hK => ?_
  refine run_call (p21) rfl rfl rfl rfl ?_
  refine run_end (z := false) fun K' hK' => hK' _ _ _ (hK _ _ _ ?_)
  clear hK' K' hK K
  refine vc_cond (t := false) rfl (fun h => by cases h) (fun _ => ?_)
  refine vc_skip ?_
  refine vc_seq ?_
  refine vc_regD [(1, 2), (0, 4), (1, 4), (2, 4), (3, 4), (0, 5), (1, 5), (2, 5), (3, 5), (4, 5)] (by kernel_rfl) (by kernel_rfl) fun K hK => ?_
  refine runD_n (z := false) 1 (fun K' hK' => hK' _ _ _ _ ?_) (by decide)
  clear hK' K'
  refine runD_call (p25 ha) rfl rfl rfl rfl ?_
  refine runD_n (z := false) 1 (fun K' hK' => hK' _ _ _ _ ?_) (by decide)
  clear hK' K'
  refine runD_call (p25 hb) rfl rfl rfl rfl ?_
  refine runD_n (z := false) 2 (fun K' hK' => hK' _ _ _ _ ?_) (by decide)
  clear hK' K'
  refine runD_set (vex_st32 rfl rfl bits0_length rfl) rfl (by decide) rfl rfl ?_
  refine runD_set (vex_st32 rfl rfl bits0_length rfl) rfl (by decide) rfl rfl ?_
  refine runD_end (z := false) fun K' hK' => hK' _ _ _ _ (hK _ _ _ ?_)
  clear hK' K' hK K
  refine vc_seq ?_
  refine vc_regD [(3, 5), (1, 11), (3, 11), (5, 11), (6, 11), (7, 11)] (by kernel_rfl) (by kernel_rfl) fun K hK => ?_
  refine runD_n (z := false) 3 (fun K' hK' => hK' _ _ _ _ ?_) (by decide)
  clear hK' K'
  refine runD_call (p25s la) rfl rfl rfl rfl ?_
  refine runD_n (z := false) 2 (fun K' hK' => hK' _ _ _ _ ?_) (by decide)
  clear hK' K'
  refine runD_call (p31s (Nat.lt_trans la (by decide)) lb2) rfl rfl rfl rfl ?_
  refine runD_call (p26w lab) rfl rfl rfl rfl ?_
  refine runD_end (z := false) fun K' hK' => hK' _ _ _ _ (hK _ _ _ ?_)
  clear hK' K' hK K
  refine vc_seq ?_
  refine vc_go (by kernel_rfl) fun K hK => hK _ _ _ ?_
  clear hK K
  refine vc_seq ?_
  refine vc_seq ?_
  refine vc_reg (by kernel_rfl) fun K hK => ?_
  refine run_rd (vex_ld32 rfl rfl) rfl ?_
  refine run_rd (vex_ld32 rfl rfl) rfl ?_
  refine run_call (p32 (x := a) (y := b) (by omega) (by omega)) rfl rfl rfl rfl ?_
  refine run_end (z := false) fun K' hK' => hK' _ _ _ (hK _ _ _ ?_)
  clear hK' K' hK K
  refine vc_cond (t := false) (bb l1) (fun h => by cases h) (fun _ => ?_)
  refine vc_skip ?_
  refine vc_seq ?_
  refine vc_seq ?_
  refine vc_reg (by kernel_rfl) fun K hK => ?_
  refine run_rd (vex_ld32 rfl rfl) rfl ?_
  refine run_rd (vex_ld32 rfl rfl) rfl ?_
  refine run_call (p32 (x := b) (y := a) (by omega) (by omega)) rfl rfl rfl rfl ?_
  refine run_end (z := false) fun K' hK' => hK' _ _ _ (hK _ _ _ ?_)
  clear hK' K' hK K
  refine vc_cond (t := true) (bb l2) (fun _ => ?_) (fun h => by cases h)
  refine vc_go (by kernel_rfl) fun K hK => hK _ _ _ ?_
  clear hK K
  refine vc_seq ?_
  refine vc_seq ?_
  refine vc_regD [(4, 5), (17, 19)] (by kernel_rfl) (by kernel_rfl) fun K hK => ?_
  refine runD_n (z := false) 4 (fun K' hK' => hK' _ _ _ _ ?_) (by decide)
  clear hK' K'
  refine runD_call (p33 la lb2) rfl rfl rfl rfl ?_
  refine runD_n (z := false) 3 (fun K' hK' => hK' _ _ _ _ ?_) (by decide)
  clear hK' K'
  refine W_known 45 (b := false) (bb (wd_ne (a % 2 ^ 64 * (b % 2 ^ 64)))) ?_
  refine runD_n (z := false) 2 (fun K' hK' => hK' _ _ _ _ ?_) (by decide)
  clear hK' K'
  refine runD_call (p29 a b) rfl rfl rfl rfl ?_
  refine runD_n (z := false) 4 (fun K' hK' => hK' _ _ _ _ ?_) (by decide)
  clear hK' K'
  refine W_known 52 (b := false) (bb hc) ?_
  refine runD_n (z := false) 2 (fun K' hK' => hK' _ _ _ _ ?_) (by decide)
  clear hK' K'
  refine runD_call (p34 _) rfl rfl rfl rfl ?_
  refine runD_end (z := false) fun K' hK' => hK' _ _ _ _ (hK _ _ _ ?_)
  clear hK' K' hK K
  refine vc_cond (t := false) (bb (of_ne _)) (fun h => by cases h) (fun _ => ?_)
  refine vc_skip ?_
  refine vc_seq ?_
  refine vc_reg (by kernel_rfl) fun K hK => ?_
  refine run_n (z := false) 2 (fun K' hK' => hK' _ _ _ ?_) (by decide)
  clear hK' K'
  refine run_call (h30) rfl rfl rfl rfl ?_
  refine run_end (z := false) fun K' hK' => hK' _ _ _ (hK _ _ _ ?_)
  clear hK' K' hK K
  refine vc_seq ?_
  refine vc_reg (by kernel_rfl) fun K hK => ?_
  refine run_rd (vex_ld32 rfl rfl) rfl ?_
  refine run_rd (vex_ld32 rfl rfl) rfl ?_
  refine run_call (p35s (x := a) (y := b) (by omega)) rfl rfl rfl rfl ?_
  refine run_call (p26w hs) rfl rfl rfl rfl ?_
  refine run_end (z := false) fun K' hK' => hK' _ _ _ (hK _ _ _ ?_)
  clear hK' K' hK K
  refine vc_seq ?_
  refine vc_seq ?_
  refine vc_reg (by kernel_rfl) fun K hK => ?_
  refine run_n (z := false) 13 (fun K' hK' => hK' _ _ _ ?_) (by decide)
  clear hK' K'
  refine vgo_known 86 (b := false) (bb (wd_ne (a + b))) ?_
  refine run_end (z := false) fun K' hK' => hK' _ _ _ (hK _ _ _ ?_)
  clear hK' K' hK K
  refine vc_cond (t := false) rfl (fun h => by cases h) (fun _ => ?_)
  refine vc_skip ?_
  refine vc_seq ?_
  refine vc_reg (by kernel_rfl) fun K hK => ?_
  refine run_n (z := false) 2 (fun K' hK' => hK' _ _ _ ?_) (by decide)
  clear hK' K'
  refine run_call (h36) rfl rfl rfl rfl ?_
  refine run_end (z := false) fun K' hK' => hK' _ _ _ (hK _ _ _ ?_)
  clear hK' K' hK K
  refine vc_seq ?_
  refine vc_seq ?_
  refine vc_go (by kernel_rfl) fun K hK => hK _ _ _ ?_
  clear hK K
  refine vc_cond (t := false) rfl (fun h => by cases h) (fun _ => ?_)
  refine vc_skip ?_
  refine vc_seq ?_
  refine vc_reg (by kernel_rfl) fun K hK => ?_
  refine run_rd (vex_ld32 rfl rfl) rfl ?_
  refine run_rd (vex_ld32 rfl rfl) rfl ?_
  refine run_call (p37 (x := a) (y := b) (by omega)) rfl rfl rfl rfl ?_
  refine run_call (p26w (by omega)) rfl rfl rfl rfl ?_
  refine run_end (z := false) fun K' hK' => hK' _ _ _ (hK _ _ _ ?_)
  clear hK' K' hK K
  refine vc_seq ?_
  refine vc_go (by kernel_rfl) fun K hK => hK _ _ _ ?_
  clear hK K
  refine vc_ret ⟨.inr rfl, ?_⟩
  exact Eq.trans (b := some (.bool _)) rfl (fin_b (wd_eq (a - b)))

theorem p6GN {a b : Nat} (ha : a < 2 ^ 128) (hb : b < 2 ^ 128) (ho : b < a) (hs : ¬ a + b < 2 ^ 128) : Pure 6 [wd a, wd b] (.bool true) := by
  have h30 : Pure 30 [wd a, wd b] _ := p30 a b ha hb
  rw [if_neg hs] at h30
  have h36 : Pure 36 [wd a, wd b] _ := p36 a b ha hb
  rw [if_neg (by omega)] at h36
  have l1 : decide (a < b) = false := by rw [decide_eq_false_iff_not]; omega
  have l2 : decide (b < a) = true := by rw [decide_eq_true_eq]; omega
  have hc : (cmpW a b != 1) = false := by rw [cmpW_p ho]; rfl
  have la : a % 2 ^ 64 < 2 ^ 64 := Nat.mod_lt _ (by decide)
  have lb2 : b % 2 ^ 64 < 2 ^ 64 := Nat.mod_lt _ (by decide)
  have lab : a % 2 ^ 64 * (b % 2 ^ 64) < 2 ^ 128 := Nat.lt_of_lt_of_le (mul_lt la lb2) (by decide)
  refine pure_of Try.func6 rfl Try.ntmps6 (by kernel_rfl) rfl (by simp) rfl ?_
  refine vc_seq ?_
  refine vc_go (by kernel_rfl) fun K hK => hK _ _ _ ?_
  clear hK K
  refine vc_seq ?_
  refine vc_seq ?_
  refine vc_reg (by kernel_rfl) fun K hK => ?_
  refine run_call (p21) rfl rfl rfl rfl ?_
  refine run_end (z := false) fun K' hK' => hK' _ _ _ (hK _ _ _ ?_)
  clear hK' K' hK K
  refine vc_cond (t := false) rfl (fun h => by cases h) (fun _ => ?_)
  refine vc_skip ?_
  refine vc_seq ?_
  refine vc_regD [(1, 2), (0, 4), (1, 4), (2, 4), (3, 4), (0, 5), (1, 5), (2, 5), (3, 5), (4, 5)] (by kernel_rfl) (by kernel_rfl) fun K hK => ?_
  refine runD_n (z := false) 1 (fun K' hK' => hK' _ _ _ _ ?_) (by decide)
  clear hK' K'
  refine runD_call (p25 ha) rfl rfl rfl rfl ?_
  refine runD_n (z := false) 1 (fun K' hK' => hK' _ _ _ _ ?_) (by decide)
  clear hK' K'
  refine runD_call (p25 hb) rfl rfl rfl rfl ?_
  refine runD_n (z := false) 2 (fun K' hK' => hK' _ _ _ _ ?_) (by decide)
  clear hK' K'
  refine runD_set (vex_st32 rfl rfl bits0_length rfl) rfl (by decide) rfl rfl ?_
  refine runD_set (vex_st32 rfl rfl bits0_length rfl) rfl (by decide) rfl rfl ?_
  refine runD_end (z := false) fun K' hK' => hK' _ _ _ _ (hK _ _ _ ?_)
  clear hK' K' hK K
  refine vc_seq ?_
  refine vc_regD [(3, 5), (1, 11), (3, 11), (5, 11), (6, 11), (7, 11)] (by kernel_rfl) (by kernel_rfl) fun K hK => ?_
  refine runD_n (z := false) 3 (fun K' hK' => hK' _ _ _ _ ?_) (by decide)
  clear hK' K'
  refine runD_call (p25s la) rfl rfl rfl rfl ?_
  refine runD_n (z := false) 2 (fun K' hK' => hK' _ _ _ _ ?_) (by decide)
  clear hK' K'
  refine runD_call (p31s (Nat.lt_trans la (by decide)) lb2) rfl rfl rfl rfl ?_
  refine runD_call (p26w lab) rfl rfl rfl rfl ?_
  refine runD_end (z := false) fun K' hK' => hK' _ _ _ _ (hK _ _ _ ?_)
  clear hK' K' hK K
  refine vc_seq ?_
  refine vc_go (by kernel_rfl) fun K hK => hK _ _ _ ?_
  clear hK K
  refine vc_seq ?_
  refine vc_seq ?_
  refine vc_reg (by kernel_rfl) fun K hK => ?_
  refine run_rd (vex_ld32 rfl rfl) rfl ?_
  refine run_rd (vex_ld32 rfl rfl) rfl ?_
  refine run_call (p32 (x := a) (y := b) (by omega) (by omega)) rfl rfl rfl rfl ?_
  refine run_end (z := false) fun K' hK' => hK' _ _ _ (hK _ _ _ ?_)
  clear hK' K' hK K
  refine vc_cond (t := false) (bb l1) (fun h => by cases h) (fun _ => ?_)
  refine vc_skip ?_
  refine vc_seq ?_
  refine vc_seq ?_
  refine vc_reg (by kernel_rfl) fun K hK => ?_
  refine run_rd (vex_ld32 rfl rfl) rfl ?_
  refine run_rd (vex_ld32 rfl rfl) rfl ?_
  refine run_call (p32 (x := b) (y := a) (by omega) (by omega)) rfl rfl rfl rfl ?_
  refine run_end (z := false) fun K' hK' => hK' _ _ _ (hK _ _ _ ?_)
  clear hK' K' hK K
  refine vc_cond (t := true) (bb l2) (fun _ => ?_) (fun h => by cases h)
  refine vc_go (by kernel_rfl) fun K hK => hK _ _ _ ?_
  clear hK K
  refine vc_seq ?_
  refine vc_seq ?_
  refine vc_regD [(4, 5), (17, 19)] (by kernel_rfl) (by kernel_rfl) fun K hK => ?_
  refine runD_n (z := false) 4 (fun K' hK' => hK' _ _ _ _ ?_) (by decide)
  clear hK' K'
  refine runD_call (p33 la lb2) rfl rfl rfl rfl ?_
  refine runD_n (z := false) 3 (fun K' hK' => hK' _ _ _ _ ?_) (by decide)
  clear hK' K'
  refine W_known 45 (b := false) (bb (wd_ne (a % 2 ^ 64 * (b % 2 ^ 64)))) ?_
  refine runD_n (z := false) 2 (fun K' hK' => hK' _ _ _ _ ?_) (by decide)
  clear hK' K'
  refine runD_call (p29 a b) rfl rfl rfl rfl ?_
  refine runD_n (z := false) 4 (fun K' hK' => hK' _ _ _ _ ?_) (by decide)
  clear hK' K'
  refine W_known 52 (b := false) (bb hc) ?_
  refine runD_n (z := false) 2 (fun K' hK' => hK' _ _ _ _ ?_) (by decide)
  clear hK' K'
  refine runD_call (p34 _) rfl rfl rfl rfl ?_
  refine runD_end (z := false) fun K' hK' => hK' _ _ _ _ (hK _ _ _ ?_)
  clear hK' K' hK K
  refine vc_cond (t := false) (bb (of_ne _)) (fun h => by cases h) (fun _ => ?_)
  refine vc_skip ?_
  refine vc_seq ?_
  refine vc_reg (by kernel_rfl) fun K hK => ?_
  refine run_n (z := false) 2 (fun K' hK' => hK' _ _ _ ?_) (by decide)
  clear hK' K'
  refine run_call (h30) rfl rfl rfl rfl ?_
  refine run_end (z := false) fun K' hK' => hK' _ _ _ (hK _ _ _ ?_)
  clear hK' K' hK K
  refine vc_seq ?_
  refine vc_reg (by kernel_rfl) fun K hK => ?_
  refine run_rd (vex_ld32 rfl rfl) rfl ?_
  refine run_rd (vex_ld32 rfl rfl) rfl ?_
  refine run_call (p35s (x := a) (y := b) (by omega)) rfl rfl rfl rfl ?_
  refine run_call (p26n (by omega) hs) rfl rfl rfl rfl ?_
  refine run_end (z := false) fun K' hK' => hK' _ _ _ (hK _ _ _ ?_)
  clear hK' K' hK K
  refine vc_seq ?_
  refine vc_seq ?_
  refine vc_go (by kernel_rfl) fun K hK => hK _ _ _ ?_
  clear hK K
  refine vc_cond (t := false) rfl (fun h => by cases h) (fun _ => ?_)
  refine vc_skip ?_
  refine vc_seq ?_
  refine vc_reg (by kernel_rfl) fun K hK => ?_
  refine run_n (z := false) 2 (fun K' hK' => hK' _ _ _ ?_) (by decide)
  clear hK' K'
  refine run_call (h36) rfl rfl rfl rfl ?_
  refine run_end (z := false) fun K' hK' => hK' _ _ _ (hK _ _ _ ?_)
  clear hK' K' hK K
  refine vc_seq ?_
  refine vc_seq ?_
  refine vc_go (by kernel_rfl) fun K hK => hK _ _ _ ?_
  clear hK K
  refine vc_cond (t := false) rfl (fun h => by cases h) (fun _ => ?_)
  refine vc_skip ?_
  refine vc_seq ?_
  refine vc_reg (by kernel_rfl) fun K hK => ?_
  refine run_rd (vex_ld32 rfl rfl) rfl ?_
  refine run_rd (vex_ld32 rfl rfl) rfl ?_
  refine run_call (p37 (x := a) (y := b) (by omega)) rfl rfl rfl rfl ?_
  refine run_call (p26w (by omega)) rfl rfl rfl rfl ?_
  refine run_end (z := false) fun K' hK' => hK' _ _ _ (hK _ _ _ ?_)
  clear hK' K' hK K
  refine vc_seq ?_
  refine vc_go (by kernel_rfl) fun K hK => hK _ _ _ ?_
  clear hK K
  refine vc_ret ⟨.inr rfl, ?_⟩
  exact Eq.trans (b := some (.bool _)) rfl (fin_b (wd_eq (a - b)))

theorem p6 {a b : Nat} (ha : a < 2 ^ 128) (hb : b < 2 ^ 128) : Pure 6 [wd a, wd b] (.bool true) := by
  have ho : a < b ∨ a = b ∨ b < a := by omega
  by_cases hs : a + b < 2 ^ 128
  · rcases ho with ho | ho | ho
    · exact p6LS ha hb ho hs
    · exact p6ES ha hb ho hs
    · exact p6GS ha hb ho hs
  · rcases ho with ho | ho | ho
    · exact p6LN ha hb ho hs
    · exact p6EN ha hb ho hs
    · exact p6GN ha hb ho hs

end Go.Proofs.Ytdfkcijholopoaa.Vm
