/- FracOrder: fractions and their order. -/
import Derived.Test.YtdfkcijholopoaaFc
namespace Go.Proofs.Ytdfkcijholopoaa.Vm
open Go Go.RowKit
set_option maxRecDepth 10000
set_option linter.unusedSimpArgs false
set_option linter.unusedVariables false

theorem p52 : Pure 52 [] (.bool true) := by
  have h1 := p58y (n := 1) (w := 3) (by decide) (by decide)
  have h2 := p61y (n := 1) (v := 3) (w := 2) (by decide) (by decide) (by decide)
  rw [show sc 1 2 3 true = 1 from by decide] at h2
  have h3 := p42y (a := 1) (v := 3) (b := 1) (w := 2) (by decide) (by decide)
  rw [show cmpW (1 * 2) (1 * 3) = -1 from by decide] at h3
  refine pure_of Try.func52 rfl Try.ntmps52 (by kernel_rfl) rfl (by simp) rfl ?_
  refine vc_seq ?_
  refine vc_go (by kernel_rfl) fun K hK => hK _ _ _ ?_
  clear hK K
  refine vc_seq ?_
  refine vc_reg (by kernel_rfl) fun K hK => ?_
  refine run_call (h1) rfl rfl rfl rfl ?_
  refine run_end (z := false) fun K' hK' => hK' _ _ _ (hK _ _ _ ?_)
  clear hK' K' hK K
  refine vc_seq ?_
  refine vc_reg (by kernel_rfl) fun K hK => ?_
  refine run_n (z := false) 1 (fun K' hK' => hK' _ _ _ ?_) (by decide)
  clear hK' K'
  refine run_call (h2) rfl rfl rfl rfl ?_
  refine run_end (z := false) fun K' hK' => hK' _ _ _ (hK _ _ _ ?_)
  clear hK' K' hK K
  refine vc_seq ?_
  refine vc_reg (by kernel_rfl) fun K hK => ?_
  refine run_n (z := false) 15 (fun K' hK' => hK' _ _ _ ?_) (by decide)
  clear hK' K'
  refine run_call (h3) rfl rfl rfl rfl ?_
  refine run_end (z := false) fun K' hK' => hK' _ _ _ (hK _ _ _ ?_)
  clear hK' K' hK K
  exact vc_ret ⟨.inr rfl, rfl⟩

theorem fo_bd (a b : Nat) : -1 ≤ cmpW a b ∧ cmpW a b ≤ 1 := by unfold cmpW; repeat' split <;> omega
theorem fo_a (a b : Nat) : (cmpW a b != IntKind.i64.wrap (0 - cmpW b a)) = false := by
  have h := fo_bd b a
  rw [Int.zero_sub, wrapI (by omega) (by omega), ← cmpW_neg]
  simp
theorem fo_b (a : Nat) : (cmpW a a != 0) = false := by rw [cmpW_eq.2 rfl]; rfl
theorem fo_le {a b : Nat} (h : a ≤ b) : decide (cmpW a b ≤ 0) = true := by
  rw [decide_eq_true_eq]; unfold cmpW; repeat' split <;> omega
theorem fo_nle {a b : Nat} (h : ¬ a ≤ b) : decide (cmpW a b ≤ 0) = false := by
  rw [decide_eq_false_iff_not]; unfold cmpW; repeat' split <;> omega
theorem fo_ngt {a b : Nat} (h : a ≤ b) : decide (cmpW a b > 0) = false := by
  rw [decide_eq_false_iff_not]; unfold cmpW; repeat' split <;> omega
theorem fr_eq (n w : Nat) : ((((n / 2 ^ 64 : Nat) : Int) == ((n / 2 ^ 64 : Nat) : Int)) && (((n % 2 ^ 64 : Nat) : Int) == ((n % 2 ^ 64 : Nat) : Int)) && ((w : Int) == (w : Int))) = true := by simp
theorem fr_ne (n w : Nat) : (!((((n / 2 ^ 64 : Nat) : Int) == ((n / 2 ^ 64 : Nat) : Int)) && (((n % 2 ^ 64 : Nat) : Int) == ((n % 2 ^ 64 : Nat) : Int)) && ((w : Int) == (w : Int)))) = false := by simp
theorem fo_tr {x y z p q r : Nat} (hq : 0 < q) (h1 : x * q ≤ y * p) (h2 : y * r ≤ z * q) : x * r ≤ z * p := by
  have h3 : x * q * r ≤ y * p * r := Nat.mul_le_mul_right r h1
  have h4 : y * r * p ≤ z * q * p := Nat.mul_le_mul_right p h2
  have e1 : y * p * r = y * r * p := Nat.mul_right_comm _ _ _
  have e2 : x * q * r = x * r * q := Nat.mul_right_comm _ _ _
  have e3 : z * q * p = z * p * q := Nat.mul_right_comm _ _ _
  rw [e1, e2] at h3
  rw [e3] at h4
  exact Nat.le_of_mul_le_mul_right (Nat.le_trans h3 h4) hq
theorem cmpW_mul {a b w : Nat} (h : 0 < w) : cmpW (a * w) (b * w) = cmpW a b := by
  have h1 : a * w < b * w ↔ a < b := Nat.mul_lt_mul_right h
  have h2 : a * w = b * w ↔ a = b := Nat.mul_left_inj (by omega)
  unfold cmpW
  simp only [h1, h2]
theorem cmpW_shift (a b c : Nat) : cmpW (a + c) (b + c) = cmpW a b := by unfold cmpW; repeat' split <;> omega
theorem rt_mk {n w : Nat} (hw : wt w = true) (hn : n < 2 ^ 100) : rt n w = true := by
  have := wt_w hw
  rw [rt, decide_eq_true_eq]; omega


theorem p15a {a v b w c u : Nat} (ra : rt a v = false) : Pure 15 [fr a v, fr b w, fr c u] (.bool true) := by
  refine pure_of Try.func15 rfl Try.ntmps15 (by kernel_rfl) rfl (by simp) rfl ?_
  refine vc_seq ?_
  refine vc_go (by kernel_rfl) fun K hK => hK _ _ _ ?_
  clear hK K
  refine vc_seq ?_
  refine vc_seq ?_
  refine vc_reg (by kernel_rfl) fun K hK => ?_
  refine run_call (p52) rfl rfl rfl rfl ?_
  refine run_end (z := false) fun K' hK' => hK' _ _ _ (hK _ _ _ ?_)
  clear hK' K' hK K
  refine vc_cond (t := false) rfl (fun h => by cases h) (fun _ => ?_)
  refine vc_skip ?_
  refine vc_seq ?_
  refine vc_seq ?_
  refine vc_reg (by kernel_rfl) fun K hK => ?_
  refine run_n (z := false) 1 (fun K' hK' => hK' _ _ _ ?_) (by decide)
  clear hK' K'
  refine run_call (p57n ra) rfl rfl rfl rfl ?_
  refine run_n (z := false) 3 (fun K' hK' => hK' _ _ _ ?_) (by decide)
  clear hK' K'
  skip
  refine run_n (z := false) 4 (fun K' hK' => hK' _ _ _ ?_) (by decide)
  clear hK' K'
  skip
  refine run_end (z := false) fun K' hK' => hK' _ _ _ (hK _ _ _ ?_)
  clear hK' K' hK K
  refine vc_cond (t := true) rfl (fun _ => ?_) (fun h => by cases h)
  refine vc_seq ?_
  refine vc_go (by kernel_rfl) fun K hK => hK _ _ _ ?_
  clear hK K
  exact vc_ret ⟨.inr rfl, rfl⟩

theorem p15b {a v b w c u : Nat} (ra : rt a v = true) (rb : rt b w = false) : Pure 15 [fr a v, fr b w, fr c u] (.bool true) := by
  refine pure_of Try.func15 rfl Try.ntmps15 (by kernel_rfl) rfl (by simp) rfl ?_
  refine vc_seq ?_
  refine vc_go (by kernel_rfl) fun K hK => hK _ _ _ ?_
  clear hK K
  refine vc_seq ?_
  refine vc_seq ?_
  refine vc_reg (by kernel_rfl) fun K hK => ?_
  refine run_call (p52) rfl rfl rfl rfl ?_
  refine run_end (z := false) fun K' hK' => hK' _ _ _ (hK _ _ _ ?_)
  clear hK' K' hK K
  refine vc_cond (t := false) rfl (fun h => by cases h) (fun _ => ?_)
  refine vc_skip ?_
  refine vc_seq ?_
  refine vc_seq ?_
  refine vc_reg (by kernel_rfl) fun K hK => ?_
  refine run_n (z := false) 1 (fun K' hK' => hK' _ _ _ ?_) (by decide)
  clear hK' K'
  refine run_call (p57y ra) rfl rfl rfl rfl ?_
  refine run_n (z := false) 3 (fun K' hK' => hK' _ _ _ ?_) (by decide)
  clear hK' K'
  refine run_call (p57n rb) rfl rfl rfl rfl ?_
  refine run_n (z := false) 4 (fun K' hK' => hK' _ _ _ ?_) (by decide)
  clear hK' K'
  skip
  refine run_end (z := false) fun K' hK' => hK' _ _ _ (hK _ _ _ ?_)
  clear hK' K' hK K
  refine vc_cond (t := true) rfl (fun _ => ?_) (fun h => by cases h)
  refine vc_seq ?_
  refine vc_go (by kernel_rfl) fun K hK => hK _ _ _ ?_
  clear hK K
  exact vc_ret ⟨.inr rfl, rfl⟩

theorem p15c {a v b w c u : Nat} (ra : rt a v = true) (rb : rt b w = true) (rc : rt c u = false) : Pure 15 [fr a v, fr b w, fr c u] (.bool true) := by
  refine pure_of Try.func15 rfl Try.ntmps15 (by kernel_rfl) rfl (by simp) rfl ?_
  refine vc_seq ?_
  refine vc_go (by kernel_rfl) fun K hK => hK _ _ _ ?_
  clear hK K
  refine vc_seq ?_
  refine vc_seq ?_
  refine vc_reg (by kernel_rfl) fun K hK => ?_
  refine run_call (p52) rfl rfl rfl rfl ?_
  refine run_end (z := false) fun K' hK' => hK' _ _ _ (hK _ _ _ ?_)
  clear hK' K' hK K
  refine vc_cond (t := false) rfl (fun h => by cases h) (fun _ => ?_)
  refine vc_skip ?_
  refine vc_seq ?_
  refine vc_seq ?_
  refine vc_reg (by kernel_rfl) fun K hK => ?_
  refine run_n (z := false) 1 (fun K' hK' => hK' _ _ _ ?_) (by decide)
  clear hK' K'
  refine run_call (p57y ra) rfl rfl rfl rfl ?_
  refine run_n (z := false) 3 (fun K' hK' => hK' _ _ _ ?_) (by decide)
  clear hK' K'
  refine run_call (p57y rb) rfl rfl rfl rfl ?_
  refine run_n (z := false) 4 (fun K' hK' => hK' _ _ _ ?_) (by decide)
  clear hK' K'
  refine run_call (p57n rc) rfl rfl rfl rfl ?_
  refine run_end (z := false) fun K' hK' => hK' _ _ _ (hK _ _ _ ?_)
  clear hK' K' hK K
  refine vc_cond (t := true) rfl (fun _ => ?_) (fun h => by cases h)
  refine vc_seq ?_
  refine vc_go (by kernel_rfl) fun K hK => hK _ _ _ ?_
  clear hK K
  exact vc_ret ⟨.inr rfl, rfl⟩

theorem p15AX {a v b w c u : Nat} (ra : rt a v = true) (rb : rt b w = true) (rc : rt c u = true) (h1 : ¬ a * w ≤ b * v) (h2 : ¬ a + c % 2 ^ 64 < 2 ^ 100) : Pure 15 [fr a v, fr b w, fr c u] (.bool true) := by
  have ww := rt_w rb
  have wv := rt_wt ra
  have rbv : rt b v = true := rt_mk wv ww.2.2
  have hk : c % 2 ^ 64 < 2 ^ 64 := Nat.mod_lt _ (by decide)
  obtain ⟨x, hx⟩ : ∃ x : Nat × Nat × Int, Pure 63 [fr b v, u64 (c % 2 ^ 64)] (.tuple #[fr x.1 x.2.1, .int .i64 x.2.2]) := by
    by_cases h : b + c % 2 ^ 64 < 2 ^ 100
    · exact ⟨(_, _, _), p63y rbv hk h⟩
    · exact ⟨(_, _, _), p63r rbv hk h⟩
  refine pure_of Try.func15 rfl Try.ntmps15 (by kernel_rfl) rfl (by simp) rfl ?_
  refine vc_seq ?_
  refine vc_go (by kernel_rfl) fun K hK => hK _ _ _ ?_
  clear hK K
  refine vc_seq ?_
  refine vc_seq ?_
  refine vc_reg (by kernel_rfl) fun K hK => ?_
  refine run_call (p52) rfl rfl rfl rfl ?_
  refine run_end (z := false) fun K' hK' => hK' _ _ _ (hK _ _ _ ?_)
  clear hK' K' hK K
  refine vc_cond (t := false) rfl (fun h => by cases h) (fun _ => ?_)
  refine vc_skip ?_
  refine vc_seq ?_
  refine vc_seq ?_
  refine vc_reg (by kernel_rfl) fun K hK => ?_
  refine run_n (z := false) 1 (fun K' hK' => hK' _ _ _ ?_) (by decide)
  clear hK' K'
  refine run_call (p57y ra) rfl rfl rfl rfl ?_
  refine run_n (z := false) 3 (fun K' hK' => hK' _ _ _ ?_) (by decide)
  clear hK' K'
  refine run_call (p57y rb) rfl rfl rfl rfl ?_
  refine run_n (z := false) 4 (fun K' hK' => hK' _ _ _ ?_) (by decide)
  clear hK' K'
  refine run_call (p57y rc) rfl rfl rfl rfl ?_
  refine run_end (z := false) fun K' hK' => hK' _ _ _ (hK _ _ _ ?_)
  clear hK' K' hK K
  refine vc_cond (t := false) rfl (fun h => by cases h) (fun _ => ?_)
  refine vc_skip ?_
  refine vc_seq ?_
  refine vc_seq ?_
  refine vc_regD [(2, 3), (2, 4)] (by kernel_rfl) (by kernel_rfl) fun K hK => ?_
  refine runD_n (z := false) 2 (fun K' hK' => hK' _ _ _ _ ?_) (by decide)
  clear hK' K'
  refine runD_call (p42y ra rb) rfl rfl rfl rfl ?_
  refine runD_n (z := false) 2 (fun K' hK' => hK' _ _ _ _ ?_) (by decide)
  clear hK' K'
  refine runD_call (p42y rb ra) rfl rfl rfl rfl ?_
  refine runD_n (z := false) 3 (fun K' hK' => hK' _ _ _ _ ?_) (by decide)
  clear hK' K'
  refine W_known 35 (b := false) (bb (fo_a _ _)) ?_
  refine runD_n (z := false) 2 (fun K' hK' => hK' _ _ _ _ ?_) (by decide)
  clear hK' K'
  refine runD_call (p42y ra ra) rfl rfl rfl rfl ?_
  refine runD_end (z := false) fun K' hK' => hK' _ _ _ _ (hK _ _ _ ?_)
  clear hK' K' hK K
  refine vc_cond (t := false) (bb (fo_b _)) (fun h => by cases h) (fun _ => ?_)
  refine vc_skip ?_
  refine vc_seq ?_
  refine vc_seq ?_
  refine vc_reg (by kernel_rfl) fun K hK => ?_
  refine run_n (z := false) 2 (fun K' hK' => hK' _ _ _ ?_) (by decide)
  clear hK' K'
  refine run_call (p42y ra rb) rfl rfl rfl rfl ?_
  refine run_n (z := false) 2 (fun K' hK' => hK' _ _ _ ?_) (by decide)
  clear hK' K'
  refine vgo_known 45 (b := false) (bb (fo_nle h1)) ?_
  refine run_n (z := false) 2 (fun K' hK' => hK' _ _ _ ?_) (by decide)
  clear hK' K'
  skip
  refine run_n (z := false) 5 (fun K' hK' => hK' _ _ _ ?_) (by decide)
  clear hK' K'
  skip
  refine run_end (z := false) fun K' hK' => hK' _ _ _ (hK _ _ _ ?_)
  clear hK' K' hK K
  refine vc_cond (t := false) rfl (fun h => by cases h) (fun _ => ?_)
  refine vc_skip ?_
  refine vc_seq ?_
  refine vc_go (by kernel_rfl) fun K hK => hK _ _ _ ?_
  clear hK K
  refine vc_seq ?_
  refine vc_reg (by kernel_rfl) fun K hK => ?_
  refine run_n (z := false) 4 (fun K' hK' => hK' _ _ _ ?_) (by decide)
  clear hK' K'
  refine run_call (p63r ra hk h2) rfl rfl rfl rfl ?_
  refine run_end (z := false) fun K' hK' => hK' _ _ _ (hK _ _ _ ?_)
  clear hK' K' hK K
  refine vc_seq ?_
  refine vc_reg (by kernel_rfl) fun K hK => ?_
  refine run_n (z := false) 4 (fun K' hK' => hK' _ _ _ ?_) (by decide)
  clear hK' K'
  refine run_call (hx) rfl rfl rfl rfl ?_
  refine run_end (z := false) fun K' hK' => hK' _ _ _ (hK _ _ _ ?_)
  clear hK' K' hK K
  refine vc_seq ?_
  refine vc_seq ?_
  refine vc_go (by kernel_rfl) fun K hK => hK _ _ _ ?_
  clear hK K
  refine vc_cond (t := true) rfl (fun _ => ?_) (fun h => by cases h)
  refine vc_seq ?_
  refine vc_go (by kernel_rfl) fun K hK => hK _ _ _ ?_
  clear hK K
  exact vc_ret ⟨.inr rfl, rfl⟩

theorem p15AY {a v b w c u : Nat} (ra : rt a v = true) (rb : rt b w = true) (rc : rt c u = true) (h1 : ¬ a * w ≤ b * v) (h2 : a + c % 2 ^ 64 < 2 ^ 100 ∧ ¬ b + c % 2 ^ 64 < 2 ^ 100) : Pure 15 [fr a v, fr b w, fr c u] (.bool true) := by
  have ww := rt_w rb
  have wv := rt_wt ra
  have rbv : rt b v = true := rt_mk wv ww.2.2
  have hk : c % 2 ^ 64 < 2 ^ 64 := Nat.mod_lt _ (by decide)
  refine pure_of Try.func15 rfl Try.ntmps15 (by kernel_rfl) rfl (by simp) rfl ?_
  refine vc_seq ?_
  refine vc_go (by kernel_rfl) fun K hK => hK _ _ _ ?_
  clear hK K
  refine vc_seq ?_
  refine vc_seq ?_
  refine vc_reg (by kernel_rfl) fun K hK => ?_
  refine run_call (p52) rfl rfl rfl rfl ?_
  refine run_end (z := false) fun K' hK' => hK' _ _ _ (hK _ _ _ ?_)
  clear hK' K' hK K
  refine vc_cond (t := false) rfl (fun h => by cases h) (fun _ => ?_)
  refine vc_skip ?_
  refine vc_seq ?_
  refine vc_seq ?_
  refine vc_reg (by kernel_rfl) fun K hK => ?_
  refine run_n (z := false) 1 (fun K' hK' => hK' _ _ _ ?_) (by decide)
  clear hK' K'
  refine run_call (p57y ra) rfl rfl rfl rfl ?_
  refine run_n (z := false) 3 (fun K' hK' => hK' _ _ _ ?_) (by decide)
  clear hK' K'
  refine run_call (p57y rb) rfl rfl rfl rfl ?_
  refine run_n (z := false) 4 (fun K' hK' => hK' _ _ _ ?_) (by decide)
  clear hK' K'
  refine run_call (p57y rc) rfl rfl rfl rfl ?_
  refine run_end (z := false) fun K' hK' => hK' _ _ _ (hK _ _ _ ?_)
  clear hK' K' hK K
  refine vc_cond (t := false) rfl (fun h => by cases h) (fun _ => ?_)
  refine vc_skip ?_
  refine vc_seq ?_
  refine vc_seq ?_
  refine vc_regD [(2, 3), (2, 4)] (by kernel_rfl) (by kernel_rfl) fun K hK => ?_
  refine runD_n (z := false) 2 (fun K' hK' => hK' _ _ _ _ ?_) (by decide)
  clear hK' K'
  refine runD_call (p42y ra rb) rfl rfl rfl rfl ?_
  refine runD_n (z := false) 2 (fun K' hK' => hK' _ _ _ _ ?_) (by decide)
  clear hK' K'
  refine runD_call (p42y rb ra) rfl rfl rfl rfl ?_
  refine runD_n (z := false) 3 (fun K' hK' => hK' _ _ _ _ ?_) (by decide)
  clear hK' K'
  refine W_known 35 (b := false) (bb (fo_a _ _)) ?_
  refine runD_n (z := false) 2 (fun K' hK' => hK' _ _ _ _ ?_) (by decide)
  clear hK' K'
  refine runD_call (p42y ra ra) rfl rfl rfl rfl ?_
  refine runD_end (z := false) fun K' hK' => hK' _ _ _ _ (hK _ _ _ ?_)
  clear hK' K' hK K
  refine vc_cond (t := false) (bb (fo_b _)) (fun h => by cases h) (fun _ => ?_)
  refine vc_skip ?_
  refine vc_seq ?_
  refine vc_seq ?_
  refine vc_reg (by kernel_rfl) fun K hK => ?_
  refine run_n (z := false) 2 (fun K' hK' => hK' _ _ _ ?_) (by decide)
  clear hK' K'
  refine run_call (p42y ra rb) rfl rfl rfl rfl ?_
  refine run_n (z := false) 2 (fun K' hK' => hK' _ _ _ ?_) (by decide)
  clear hK' K'
  refine vgo_known 45 (b := false) (bb (fo_nle h1)) ?_
  refine run_n (z := false) 2 (fun K' hK' => hK' _ _ _ ?_) (by decide)
  clear hK' K'
  skip
  refine run_n (z := false) 5 (fun K' hK' => hK' _ _ _ ?_) (by decide)
  clear hK' K'
  skip
  refine run_end (z := false) fun K' hK' => hK' _ _ _ (hK _ _ _ ?_)
  clear hK' K' hK K
  refine vc_cond (t := false) rfl (fun h => by cases h) (fun _ => ?_)
  refine vc_skip ?_
  refine vc_seq ?_
  refine vc_go (by kernel_rfl) fun K hK => hK _ _ _ ?_
  clear hK K
  refine vc_seq ?_
  refine vc_reg (by kernel_rfl) fun K hK => ?_
  refine run_n (z := false) 4 (fun K' hK' => hK' _ _ _ ?_) (by decide)
  clear hK' K'
  refine run_call (p63y ra hk h2.1) rfl rfl rfl rfl ?_
  refine run_end (z := false) fun K' hK' => hK' _ _ _ (hK _ _ _ ?_)
  clear hK' K' hK K
  refine vc_seq ?_
  refine vc_reg (by kernel_rfl) fun K hK => ?_
  refine run_n (z := false) 4 (fun K' hK' => hK' _ _ _ ?_) (by decide)
  clear hK' K'
  refine run_call (p63r rbv hk h2.2) rfl rfl rfl rfl ?_
  refine run_end (z := false) fun K' hK' => hK' _ _ _ (hK _ _ _ ?_)
  clear hK' K' hK K
  refine vc_seq ?_
  refine vc_seq ?_
  refine vc_go (by kernel_rfl) fun K hK => hK _ _ _ ?_
  clear hK K
  refine vc_cond (t := true) rfl (fun _ => ?_) (fun h => by cases h)
  refine vc_seq ?_
  refine vc_go (by kernel_rfl) fun K hK => hK _ _ _ ?_
  clear hK K
  exact vc_ret ⟨.inr rfl, rfl⟩

theorem p15AZ {a v b w c u : Nat} (ra : rt a v = true) (rb : rt b w = true) (rc : rt c u = true) (h1 : ¬ a * w ≤ b * v) (h2 : a + c % 2 ^ 64 < 2 ^ 100 ∧ b + c % 2 ^ 64 < 2 ^ 100) : Pure 15 [fr a v, fr b w, fr c u] (.bool true) := by
  have ww := rt_w rb
  have wv := rt_wt ra
  have rbv : rt b v = true := rt_mk wv ww.2.2
  have hk : c % 2 ^ 64 < 2 ^ 64 := Nat.mod_lt _ (by decide)
  have rx : rt (a + c % 2 ^ 64) v = true := rt_mk wv h2.1
  have ry : rt (b + c % 2 ^ 64) v = true := rt_mk wv h2.2
  have h62 := p62y rx hk
  rw [Nat.add_sub_cancel] at h62
  have hv0 : 0 < v := by have := rt_w ra; omega
  refine pure_of Try.func15 rfl Try.ntmps15 (by kernel_rfl) rfl (by simp) rfl ?_
  refine vc_seq ?_
  refine vc_go (by kernel_rfl) fun K hK => hK _ _ _ ?_
  clear hK K
  refine vc_seq ?_
  refine vc_seq ?_
  refine vc_reg (by kernel_rfl) fun K hK => ?_
  refine run_call (p52) rfl rfl rfl rfl ?_
  refine run_end (z := false) fun K' hK' => hK' _ _ _ (hK _ _ _ ?_)
  clear hK' K' hK K
  refine vc_cond (t := false) rfl (fun h => by cases h) (fun _ => ?_)
  refine vc_skip ?_
  refine vc_seq ?_
  refine vc_seq ?_
  refine vc_reg (by kernel_rfl) fun K hK => ?_
  refine run_n (z := false) 1 (fun K' hK' => hK' _ _ _ ?_) (by decide)
  clear hK' K'
  refine run_call (p57y ra) rfl rfl rfl rfl ?_
  refine run_n (z := false) 3 (fun K' hK' => hK' _ _ _ ?_) (by decide)
  clear hK' K'
  refine run_call (p57y rb) rfl rfl rfl rfl ?_
  refine run_n (z := false) 4 (fun K' hK' => hK' _ _ _ ?_) (by decide)
  clear hK' K'
  refine run_call (p57y rc) rfl rfl rfl rfl ?_
  refine run_end (z := false) fun K' hK' => hK' _ _ _ (hK _ _ _ ?_)
  clear hK' K' hK K
  refine vc_cond (t := false) rfl (fun h => by cases h) (fun _ => ?_)
  refine vc_skip ?_
  refine vc_seq ?_
  refine vc_seq ?_
  refine vc_regD [(2, 3), (2, 4)] (by kernel_rfl) (by kernel_rfl) fun K hK => ?_
  refine runD_n (z := false) 2 (fun K' hK' => hK' _ _ _ _ ?_) (by decide)
  clear hK' K'
  refine runD_call (p42y ra rb) rfl rfl rfl rfl ?_
  refine runD_n (z := false) 2 (fun K' hK' => hK' _ _ _ _ ?_) (by decide)
  clear hK' K'
  refine runD_call (p42y rb ra) rfl rfl rfl rfl ?_
  refine runD_n (z := false) 3 (fun K' hK' => hK' _ _ _ _ ?_) (by decide)
  clear hK' K'
  refine W_known 35 (b := false) (bb (fo_a _ _)) ?_
  refine runD_n (z := false) 2 (fun K' hK' => hK' _ _ _ _ ?_) (by decide)
  clear hK' K'
  refine runD_call (p42y ra ra) rfl rfl rfl rfl ?_
  refine runD_end (z := false) fun K' hK' => hK' _ _ _ _ (hK _ _ _ ?_)
  clear hK' K' hK K
  refine vc_cond (t := false) (bb (fo_b _)) (fun h => by cases h) (fun _ => ?_)
  refine vc_skip ?_
  refine vc_seq ?_
  refine vc_seq ?_
  refine vc_reg (by kernel_rfl) fun K hK => ?_
  refine run_n (z := false) 2 (fun K' hK' => hK' _ _ _ ?_) (by decide)
  clear hK' K'
  refine run_call (p42y ra rb) rfl rfl rfl rfl ?_
  refine run_n (z := false) 2 (fun K' hK' => hK' _ _ _ ?_) (by decide)
  clear hK' K'
  refine vgo_known 45 (b := false) (bb (fo_nle h1)) ?_
  refine run_n (z := false) 2 (fun K' hK' => hK' _ _ _ ?_) (by decide)
  clear hK' K'
  skip
  refine run_n (z := false) 5 (fun K' hK' => hK' _ _ _ ?_) (by decide)
  clear hK' K'
  skip
  refine run_end (z := false) fun K' hK' => hK' _ _ _ (hK _ _ _ ?_)
  clear hK' K' hK K
  refine vc_cond (t := false) rfl (fun h => by cases h) (fun _ => ?_)
  refine vc_skip ?_
  refine vc_seq ?_
  refine vc_go (by kernel_rfl) fun K hK => hK _ _ _ ?_
  clear hK K
  refine vc_seq ?_
  refine vc_reg (by kernel_rfl) fun K hK => ?_
  refine run_n (z := false) 4 (fun K' hK' => hK' _ _ _ ?_) (by decide)
  clear hK' K'
  refine run_call (p63y ra hk h2.1) rfl rfl rfl rfl ?_
  refine run_end (z := false) fun K' hK' => hK' _ _ _ (hK _ _ _ ?_)
  clear hK' K' hK K
  refine vc_seq ?_
  refine vc_reg (by kernel_rfl) fun K hK => ?_
  refine run_n (z := false) 4 (fun K' hK' => hK' _ _ _ ?_) (by decide)
  clear hK' K'
  refine run_call (p63y rbv hk h2.2) rfl rfl rfl rfl ?_
  refine run_end (z := false) fun K' hK' => hK' _ _ _ (hK _ _ _ ?_)
  clear hK' K' hK K
  refine vc_seq ?_
  refine vc_seq ?_
  refine vc_go (by kernel_rfl) fun K hK => hK _ _ _ ?_
  clear hK K
  refine vc_cond (t := false) rfl (fun h => by cases h) (fun _ => ?_)
  refine vc_skip ?_
  refine vc_seq ?_
  refine vc_reg (by kernel_rfl) fun K hK => ?_
  refine run_n (z := false) 4 (fun K' hK' => hK' _ _ _ ?_) (by decide)
  clear hK' K'
  refine run_call (h62) rfl rfl rfl rfl ?_
  refine run_end (z := false) fun K' hK' => hK' _ _ _ (hK _ _ _ ?_)
  clear hK' K' hK K
  refine vc_seq ?_
  refine vc_regD [(10, 11), (10, 12)] (by kernel_rfl) (by kernel_rfl) fun K hK => ?_
  refine runD_n (z := false) 8 (fun K' hK' => hK' _ _ _ _ ?_) (by decide)
  clear hK' K'
  refine W_known 97 (b := true) (bb (fr_eq a v)) ?_
  refine runD_n (z := false) 2 (fun K' hK' => hK' _ _ _ _ ?_) (by decide)
  clear hK' K'
  refine runD_call (p42y rx ry) rfl rfl rfl rfl ?_
  refine runD_n (z := false) 2 (fun K' hK' => hK' _ _ _ _ ?_) (by decide)
  clear hK' K'
  refine runD_call (p42y ra rbv) rfl rfl rfl rfl ?_
  refine runD_end (z := false) fun K' hK' => hK' _ _ _ _ (hK _ _ _ ?_)
  clear hK' K' hK K
  refine vc_ret ⟨.inr rfl, ?_⟩
  exact Eq.trans (b := some (.bool _)) rfl (fin_b (by rw [cmpW_mul hv0, cmpW_mul hv0, cmpW_shift, beq_self_eq_true]))

theorem p15BX {a v b w c u : Nat} (ra : rt a v = true) (rb : rt b w = true) (rc : rt c u = true) (h1 : a * w ≤ b * v ∧ ¬ b * u ≤ c * w) (h2 : ¬ a + c % 2 ^ 64 < 2 ^ 100) : Pure 15 [fr a v, fr b w, fr c u] (.bool true) := by
  have ww := rt_w rb
  have wv := rt_wt ra
  have rbv : rt b v = true := rt_mk wv ww.2.2
  have hk : c % 2 ^ 64 < 2 ^ 64 := Nat.mod_lt _ (by decide)
  obtain ⟨x, hx⟩ : ∃ x : Nat × Nat × Int, Pure 63 [fr b v, u64 (c % 2 ^ 64)] (.tuple #[fr x.1 x.2.1, .int .i64 x.2.2]) := by
    by_cases h : b + c % 2 ^ 64 < 2 ^ 100
    · exact ⟨(_, _, _), p63y rbv hk h⟩
    · exact ⟨(_, _, _), p63r rbv hk h⟩
  refine pure_of Try.func15 rfl Try.ntmps15 (by kernel_rfl) rfl (by simp) rfl ?_
  refine vc_seq ?_
  refine vc_go (by kernel_rfl) fun K hK => hK _ _ _ ?_
  clear hK K
  refine vc_seq ?_
  refine vc_seq ?_
  refine vc_reg (by kernel_rfl) fun K hK => ?_
  refine run_call (p52) rfl rfl rfl rfl ?_
  refine run_end (z := false) fun K' hK' => hK' _ _ _ (hK _ _ _ ?_)
  clear hK' K' hK K
  refine vc_cond (t := false) rfl (fun h => by cases h) (fun _ => ?_)
  refine vc_skip ?_
  refine vc_seq ?_
  refine vc_seq ?_
  refine vc_reg (by kernel_rfl) fun K hK => ?_
  refine run_n (z := false) 1 (fun K' hK' => hK' _ _ _ ?_) (by decide)
  clear hK' K'
  refine run_call (p57y ra) rfl rfl rfl rfl ?_
  refine run_n (z := false) 3 (fun K' hK' => hK' _ _ _ ?_) (by decide)
  clear hK' K'
  refine run_call (p57y rb) rfl rfl rfl rfl ?_
  refine run_n (z := false) 4 (fun K' hK' => hK' _ _ _ ?_) (by decide)
  clear hK' K'
  refine run_call (p57y rc) rfl rfl rfl rfl ?_
  refine run_end (z := false) fun K' hK' => hK' _ _ _ (hK _ _ _ ?_)
  clear hK' K' hK K
  refine vc_cond (t := false) rfl (fun h => by cases h) (fun _ => ?_)
  refine vc_skip ?_
  refine vc_seq ?_
  refine vc_seq ?_
  refine vc_regD [(2, 3), (2, 4)] (by kernel_rfl) (by kernel_rfl) fun K hK => ?_
  refine runD_n (z := false) 2 (fun K' hK' => hK' _ _ _ _ ?_) (by decide)
  clear hK' K'
  refine runD_call (p42y ra rb) rfl rfl rfl rfl ?_
  refine runD_n (z := false) 2 (fun K' hK' => hK' _ _ _ _ ?_) (by decide)
  clear hK' K'
  refine runD_call (p42y rb ra) rfl rfl rfl rfl ?_
  refine runD_n (z := false) 3 (fun K' hK' => hK' _ _ _ _ ?_) (by decide)
  clear hK' K'
  refine W_known 35 (b := false) (bb (fo_a _ _)) ?_
  refine runD_n (z := false) 2 (fun K' hK' => hK' _ _ _ _ ?_) (by decide)
  clear hK' K'
  refine runD_call (p42y ra ra) rfl rfl rfl rfl ?_
  refine runD_end (z := false) fun K' hK' => hK' _ _ _ _ (hK _ _ _ ?_)
  clear hK' K' hK K
  refine vc_cond (t := false) (bb (fo_b _)) (fun h => by cases h) (fun _ => ?_)
  refine vc_skip ?_
  refine vc_seq ?_
  refine vc_seq ?_
  refine vc_reg (by kernel_rfl) fun K hK => ?_
  refine run_n (z := false) 2 (fun K' hK' => hK' _ _ _ ?_) (by decide)
  clear hK' K'
  refine run_call (p42y ra rb) rfl rfl rfl rfl ?_
  refine run_n (z := false) 2 (fun K' hK' => hK' _ _ _ ?_) (by decide)
  clear hK' K'
  refine vgo_known 45 (b := true) (bb (fo_le h1.1)) ?_
  refine run_n (z := false) 2 (fun K' hK' => hK' _ _ _ ?_) (by decide)
  clear hK' K'
  refine run_call (p42y rb rc) rfl rfl rfl rfl ?_
  refine run_n (z := false) 3 (fun K' hK' => hK' _ _ _ ?_) (by decide)
  clear hK' K'
  refine vgo_known 51 (b := false) (bb (fo_nle h1.2)) ?_
  refine run_n (z := false) 2 (fun K' hK' => hK' _ _ _ ?_) (by decide)
  clear hK' K'
  skip
  refine run_end (z := false) fun K' hK' => hK' _ _ _ (hK _ _ _ ?_)
  clear hK' K' hK K
  refine vc_cond (t := false) rfl (fun h => by cases h) (fun _ => ?_)
  refine vc_skip ?_
  refine vc_seq ?_
  refine vc_go (by kernel_rfl) fun K hK => hK _ _ _ ?_
  clear hK K
  refine vc_seq ?_
  refine vc_reg (by kernel_rfl) fun K hK => ?_
  refine run_n (z := false) 4 (fun K' hK' => hK' _ _ _ ?_) (by decide)
  clear hK' K'
  refine run_call (p63r ra hk h2) rfl rfl rfl rfl ?_
  refine run_end (z := false) fun K' hK' => hK' _ _ _ (hK _ _ _ ?_)
  clear hK' K' hK K
  refine vc_seq ?_
  refine vc_reg (by kernel_rfl) fun K hK => ?_
  refine run_n (z := false) 4 (fun K' hK' => hK' _ _ _ ?_) (by decide)
  clear hK' K'
  refine run_call (hx) rfl rfl rfl rfl ?_
  refine run_end (z := false) fun K' hK' => hK' _ _ _ (hK _ _ _ ?_)
  clear hK' K' hK K
  refine vc_seq ?_
  refine vc_seq ?_
  refine vc_go (by kernel_rfl) fun K hK => hK _ _ _ ?_
  clear hK K
  refine vc_cond (t := true) rfl (fun _ => ?_) (fun h => by cases h)
  refine vc_seq ?_
  refine vc_go (by kernel_rfl) fun K hK => hK _ _ _ ?_
  clear hK K
  exact vc_ret ⟨.inr rfl, rfl⟩

theorem p15BY {a v b w c u : Nat} (ra : rt a v = true) (rb : rt b w = true) (rc : rt c u = true) (h1 : a * w ≤ b * v ∧ ¬ b * u ≤ c * w) (h2 : a + c % 2 ^ 64 < 2 ^ 100 ∧ ¬ b + c % 2 ^ 64 < 2 ^ 100) : Pure 15 [fr a v, fr b w, fr c u] (.bool true) := by
  have ww := rt_w rb
  have wv := rt_wt ra
  have rbv : rt b v = true := rt_mk wv ww.2.2
  have hk : c % 2 ^ 64 < 2 ^ 64 := Nat.mod_lt _ (by decide)
  refine pure_of Try.func15 rfl Try.ntmps15 (by kernel_rfl) rfl (by simp) rfl ?_
  refine vc_seq ?_
  refine vc_go (by kernel_rfl) fun K hK => hK _ _ _ ?_
  clear hK K
  refine vc_seq ?_
  refine vc_seq ?_
  refine vc_reg (by kernel_rfl) fun K hK => ?_
  refine run_call (p52) rfl rfl rfl rfl ?_
  refine run_end (z := false) fun K' hK' => hK' _ _ _ (hK _ _ _ ?_)
  clear hK' K' hK K
  refine vc_cond (t := false) rfl (fun h => by cases h) (fun _ => ?_)
  refine vc_skip ?_
  refine vc_seq ?_
  refine vc_seq ?_
  refine vc_reg (by kernel_rfl) fun K hK => ?_
  refine run_n (z := false) 1 (fun K' hK' => hK' _ _ _ ?_) (by decide)
  clear hK' K'
  refine run_call (p57y ra) rfl rfl rfl rfl ?_
  refine run_n (z := false) 3 (fun K' hK' => hK' _ _ _ ?_) (by decide)
  clear hK' K'
  refine run_call (p57y rb) rfl rfl rfl rfl ?_
  refine run_n (z := false) 4 (fun K' hK' => hK' _ _ _ ?_) (by decide)
  clear hK' K'
  refine run_call (p57y rc) rfl rfl rfl rfl ?_
  refine run_end (z := false) fun K' hK' => hK' _ _ _ (hK _ _ _ ?_)
  clear hK' K' hK K
  refine vc_cond (t := false) rfl (fun h => by cases h) (fun _ => ?_)
  refine vc_skip ?_
  refine vc_seq ?_
  refine vc_seq ?_
  refine vc_regD [(2, 3), (2, 4)] (by kernel_rfl) (by kernel_rfl) fun K hK => ?_
  refine runD_n (z := false) 2 (fun K' hK' => hK' _ _ _ _ ?_) (by decide)
  clear hK' K'
  refine runD_call (p42y ra rb) rfl rfl rfl rfl ?_
  refine runD_n (z := false) 2 (fun K' hK' => hK' _ _ _ _ ?_) (by decide)
  clear hK' K'
  refine runD_call (p42y rb ra) rfl rfl rfl rfl ?_
  refine runD_n (z := false) 3 (fun K' hK' => hK' _ _ _ _ ?_) (by decide)
  clear hK' K'
  refine W_known 35 (b := false) (bb (fo_a _ _)) ?_
  refine runD_n (z := false) 2 (fun K' hK' => hK' _ _ _ _ ?_) (by decide)
  clear hK' K'
  refine runD_call (p42y ra ra) rfl rfl rfl rfl ?_
  refine runD_end (z := false) fun K' hK' => hK' _ _ _ _ (hK _ _ _ ?_)
  clear hK' K' hK K
  refine vc_cond (t := false) (bb (fo_b _)) (fun h => by cases h) (fun _ => ?_)
  refine vc_skip ?_
  refine vc_seq ?_
  refine vc_seq ?_
  refine vc_reg (by kernel_rfl) fun K hK => ?_
  refine run_n (z := false) 2 (fun K' hK' => hK' _ _ _ ?_) (by decide)
  clear hK' K'
  refine run_call (p42y ra rb) rfl rfl rfl rfl ?_
  refine run_n (z := false) 2 (fun K' hK' => hK' _ _ _ ?_) (by decide)
  clear hK' K'
  refine vgo_known 45 (b := true) (bb (fo_le h1.1)) ?_
  refine run_n (z := false) 2 (fun K' hK' => hK' _ _ _ ?_) (by decide)
  clear hK' K'
  refine run_call (p42y rb rc) rfl rfl rfl rfl ?_
  refine run_n (z := false) 3 (fun K' hK' => hK' _ _ _ ?_) (by decide)
  clear hK' K'
  refine vgo_known 51 (b := false) (bb (fo_nle h1.2)) ?_
  refine run_n (z := false) 2 (fun K' hK' => hK' _ _ _ ?_) (by decide)
  clear hK' K'
  skip
  refine run_end (z := false) fun K' hK' => hK' _ _ _ (hK _ _ _ ?_)
  clear hK' K' hK K
  refine vc_cond (t := false) rfl (fun h => by cases h) (fun _ => ?_)
  refine vc_skip ?_
  refine vc_seq ?_
  refine vc_go (by kernel_rfl) fun K hK => hK _ _ _ ?_
  clear hK K
  refine vc_seq ?_
  refine vc_reg (by kernel_rfl) fun K hK => ?_
  refine run_n (z := false) 4 (fun K' hK' => hK' _ _ _ ?_) (by decide)
  clear hK' K'
  refine run_call (p63y ra hk h2.1) rfl rfl rfl rfl ?_
  refine run_end (z := false) fun K' hK' => hK' _ _ _ (hK _ _ _ ?_)
  clear hK' K' hK K
  refine vc_seq ?_
  refine vc_reg (by kernel_rfl) fun K hK => ?_
  refine run_n (z := false) 4 (fun K' hK' => hK' _ _ _ ?_) (by decide)
  clear hK' K'
  refine run_call (p63r rbv hk h2.2) rfl rfl rfl rfl ?_
  refine run_end (z := false) fun K' hK' => hK' _ _ _ (hK _ _ _ ?_)
  clear hK' K' hK K
  refine vc_seq ?_
  refine vc_seq ?_
  refine vc_go (by kernel_rfl) fun K hK => hK _ _ _ ?_
  clear hK K
  refine vc_cond (t := true) rfl (fun _ => ?_) (fun h => by cases h)
  refine vc_seq ?_
  refine vc_go (by kernel_rfl) fun K hK => hK _ _ _ ?_
  clear hK K
  exact vc_ret ⟨.inr rfl, rfl⟩

theorem p15BZ {a v b w c u : Nat} (ra : rt a v = true) (rb : rt b w = true) (rc : rt c u = true) (h1 : a * w ≤ b * v ∧ ¬ b * u ≤ c * w) (h2 : a + c % 2 ^ 64 < 2 ^ 100 ∧ b + c % 2 ^ 64 < 2 ^ 100) : Pure 15 [fr a v, fr b w, fr c u] (.bool true) := by
  have ww := rt_w rb
  have wv := rt_wt ra
  have rbv : rt b v = true := rt_mk wv ww.2.2
  have hk : c % 2 ^ 64 < 2 ^ 64 := Nat.mod_lt _ (by decide)
  have rx : rt (a + c % 2 ^ 64) v = true := rt_mk wv h2.1
  have ry : rt (b + c % 2 ^ 64) v = true := rt_mk wv h2.2
  have h62 := p62y rx hk
  rw [Nat.add_sub_cancel] at h62
  have hv0 : 0 < v := by have := rt_w ra; omega
  refine pure_of Try.func15 rfl Try.ntmps15 (by kernel_rfl) rfl (by simp) rfl ?_
  refine vc_seq ?_
  refine vc_go (by kernel_rfl) fun K hK => hK _ _ _ ?_
  clear hK K
  refine vc_seq ?_
  refine vc_seq ?_
  refine vc_reg (by kernel_rfl) fun K hK => ?_
  refine run_call (p52) rfl rfl rfl rfl ?_
  refine run_end (z := false) fun K' hK' => hK' _ _ _ (hK _ _ _ ?_)
  clear hK' K' hK K
  refine vc_cond (t := false) rfl (fun h => by cases h) (fun _ => ?_)
  refine vc_skip ?_
  refine vc_seq ?_
  refine vc_seq ?_
  refine vc_reg (by kernel_rfl) fun K hK => ?_
  refine run_n (z := false) 1 (fun K' hK' => hK' _ _ _ ?_) (by decide)
  clear hK' K'
  refine run_call (p57y ra) rfl rfl rfl rfl ?_
  refine run_n (z := false) 3 (fun K' hK' => hK' _ _ _ ?_) (by decide)
  clear hK' K'
  refine run_call (p57y rb) rfl rfl rfl rfl ?_
  refine run_n (z := false) 4 (fun K' hK' => hK' _ _ _ ?_) (by decide)
  clear hK' K'
  refine run_call (p57y rc) rfl rfl rfl rfl ?_
  refine run_end (z := false) fun K' hK' => hK' _ _ _ (hK _ _ _ ?_)
  clear hK' K' hK K
  refine vc_cond (t := false) rfl (fun h => by cases h) (fun _ => ?_)
  refine vc_skip ?_
  refine vc_seq ?_
  refine vc_seq ?_
  refine vc_regD [(2, 3), (2, 4)] (by kernel_rfl) (by kernel_rfl) fun K hK => ?_
  refine runD_n (z := false) 2 (fun K' hK' => hK' _ _ _ _ ?_) (by decide)
  clear hK' K'
  refine runD_call (p42y ra rb) rfl rfl rfl rfl ?_
  refine runD_n (z := false) 2 (fun K' hK' => hK' _ _ _ _ ?_) (by decide)
  clear hK' K'
  refine runD_call (p42y rb ra) rfl rfl rfl rfl ?_
  refine runD_n (z := false) 3 (fun K' hK' => hK' _ _ _ _ ?_) (by decide)
  clear hK' K'
  refine W_known 35 (b := false) (bb (fo_a _ _)) ?_
  refine runD_n (z := false) 2 (fun K' hK' => hK' _ _ _ _ ?_) (by decide)
  clear hK' K'
  refine runD_call (p42y ra ra) rfl rfl rfl rfl ?_
  refine runD_end (z := false) fun K' hK' => hK' _ _ _ _ (hK _ _ _ ?_)
  clear hK' K' hK K
  refine vc_cond (t := false) (bb (fo_b _)) (fun h => by cases h) (fun _ => ?_)
  refine vc_skip ?_
  refine vc_seq ?_
  refine vc_seq ?_
  refine vc_reg (by kernel_rfl) fun K hK => ?_
  refine run_n (z := false) 2 (fun K' hK' => hK' _ _ _ ?_) (by decide)
  clear hK' K'
  refine run_call (p42y ra rb) rfl rfl rfl rfl ?_
  refine run_n (z := false) 2 (fun K' hK' => hK' _ _ _ ?_) (by decide)
  clear hK' K'
  refine vgo_known 45 (b := true) (bb (fo_le h1.1)) ?_
  refine run_n (z := false) 2 (fun K' hK' => hK' _ _ _ ?_) (by decide)
  clear hK' K'
  refine run_call (p42y rb rc) rfl rfl rfl rfl ?_
  refine run_n (z := false) 3 (fun K' hK' => hK' _ _ _ ?_) (by decide)
  clear hK' K'
  refine vgo_known 51 (b := false) (bb (fo_nle h1.2)) ?_
  refine run_n (z := false) 2 (fun K' hK' => hK' _ _ _ ?_) (by decide)
  clear hK' K'
  skip
  refine run_end (z := false) fun K' hK' => hK' _ _ _ (hK _ _ _ ?_)
  clear hK' K' hK K
  refine vc_cond (t := false) rfl (fun h => by cases h) (fun _ => ?_)
  refine vc_skip ?_
  refine vc_seq ?_
  refine vc_go (by kernel_rfl) fun K hK => hK _ _ _ ?_
  clear hK K
  refine vc_seq ?_
  refine vc_reg (by kernel_rfl) fun K hK => ?_
  refine run_n (z := false) 4 (fun K' hK' => hK' _ _ _ ?_) (by decide)
  clear hK' K'
  refine run_call (p63y ra hk h2.1) rfl rfl rfl rfl ?_
  refine run_end (z := false) fun K' hK' => hK' _ _ _ (hK _ _ _ ?_)
  clear hK' K' hK K
  refine vc_seq ?_
  refine vc_reg (by kernel_rfl) fun K hK => ?_
  refine run_n (z := false) 4 (fun K' hK' => hK' _ _ _ ?_) (by decide)
  clear hK' K'
  refine run_call (p63y rbv hk h2.2) rfl rfl rfl rfl ?_
  refine run_end (z := false) fun K' hK' => hK' _ _ _ (hK _ _ _ ?_)
  clear hK' K' hK K
  refine vc_seq ?_
  refine vc_seq ?_
  refine vc_go (by kernel_rfl) fun K hK => hK _ _ _ ?_
  clear hK K
  refine vc_cond (t := false) rfl (fun h => by cases h) (fun _ => ?_)
  refine vc_skip ?_
  refine vc_seq ?_
  refine vc_reg (by kernel_rfl) fun K hK => ?_
  refine run_n (z := false) 4 (fun K' hK' => hK' _ _ _ ?_) (by decide)
  clear hK' K'
  refine run_call (h62) rfl rfl rfl rfl ?_
  refine run_end (z := false) fun K' hK' => hK' _ _ _ (hK _ _ _ ?_)
  clear hK' K' hK K
  refine vc_seq ?_
  refine vc_regD [(10, 11), (10, 12)] (by kernel_rfl) (by kernel_rfl) fun K hK => ?_
  refine runD_n (z := false) 8 (fun K' hK' => hK' _ _ _ _ ?_) (by decide)
  clear hK' K'
  refine W_known 97 (b := true) (bb (fr_eq a v)) ?_
  refine runD_n (z := false) 2 (fun K' hK' => hK' _ _ _ _ ?_) (by decide)
  clear hK' K'
  refine runD_call (p42y rx ry) rfl rfl rfl rfl ?_
  refine runD_n (z := false) 2 (fun K' hK' => hK' _ _ _ _ ?_) (by decide)
  clear hK' K'
  refine runD_call (p42y ra rbv) rfl rfl rfl rfl ?_
  refine runD_end (z := false) fun K' hK' => hK' _ _ _ _ (hK _ _ _ ?_)
  clear hK' K' hK K
  refine vc_ret ⟨.inr rfl, ?_⟩
  exact Eq.trans (b := some (.bool _)) rfl (fin_b (by rw [cmpW_mul hv0, cmpW_mul hv0, cmpW_shift, beq_self_eq_true]))

theorem p15CX {a v b w c u : Nat} (ra : rt a v = true) (rb : rt b w = true) (rc : rt c u = true) (h1 : a * w ≤ b * v ∧ b * u ≤ c * w) (h2 : ¬ a + c % 2 ^ 64 < 2 ^ 100) : Pure 15 [fr a v, fr b w, fr c u] (.bool true) := by
  have ww := rt_w rb
  have wv := rt_wt ra
  have rbv : rt b v = true := rt_mk wv ww.2.2
  have hk : c % 2 ^ 64 < 2 ^ 64 := Nat.mod_lt _ (by decide)
  obtain ⟨x, hx⟩ : ∃ x : Nat × Nat × Int, Pure 63 [fr b v, u64 (c % 2 ^ 64)] (.tuple #[fr x.1 x.2.1, .int .i64 x.2.2]) := by
    by_cases h : b + c % 2 ^ 64 < 2 ^ 100
    · exact ⟨(_, _, _), p63y rbv hk h⟩
    · exact ⟨(_, _, _), p63r rbv hk h⟩
  refine pure_of Try.func15 rfl Try.ntmps15 (by kernel_rfl) rfl (by simp) rfl ?_
  refine vc_seq ?_
  refine vc_go (by kernel_rfl) fun K hK => hK _ _ _ ?_
  clear hK K
  refine vc_seq ?_
  refine vc_seq ?_
  refine vc_reg (by kernel_rfl) fun K hK => ?_
  refine run_call (p52) rfl rfl rfl rfl ?_
  refine run_end (z := false) fun K' hK' => hK' _ _ _ (hK _ _ _ ?_)
  clear hK' K' hK K
  refine vc_cond (t := false) rfl (fun h => by cases h) (fun _ => ?_)
  refine vc_skip ?_
  refine vc_seq ?_
  refine vc_seq ?_
  refine vc_reg (by kernel_rfl) fun K hK => ?_
  refine run_n (z := false) 1 (fun K' hK' => hK' _ _ _ ?_) (by decide)
  clear hK' K'
  refine run_call (p57y ra) rfl rfl rfl rfl ?_
  refine run_n (z := false) 3 (fun K' hK' => hK' _ _ _ ?_) (by decide)
  clear hK' K'
  refine run_call (p57y rb) rfl rfl rfl rfl ?_
  refine run_n (z := false) 4 (fun K' hK' => hK' _ _ _ ?_) (by decide)
  clear hK' K'
  refine run_call (p57y rc) rfl rfl rfl rfl ?_
  refine run_end (z := false) fun K' hK' => hK' _ _ _ (hK _ _ _ ?_)
  clear hK' K' hK K
  refine vc_cond (t := false) rfl (fun h => by cases h) (fun _ => ?_)
  refine vc_skip ?_
  refine vc_seq ?_
  refine vc_seq ?_
  refine vc_regD [(2, 3), (2, 4)] (by kernel_rfl) (by kernel_rfl) fun K hK => ?_
  refine runD_n (z := false) 2 (fun K' hK' => hK' _ _ _ _ ?_) (by decide)
  clear hK' K'
  refine runD_call (p42y ra rb) rfl rfl rfl rfl ?_
  refine runD_n (z := false) 2 (fun K' hK' => hK' _ _ _ _ ?_) (by decide)
  clear hK' K'
  refine runD_call (p42y rb ra) rfl rfl rfl rfl ?_
  refine runD_n (z := false) 3 (fun K' hK' => hK' _ _ _ _ ?_) (by decide)
  clear hK' K'
  refine W_known 35 (b := false) (bb (fo_a _ _)) ?_
  refine runD_n (z := false) 2 (fun K' hK' => hK' _ _ _ _ ?_) (by decide)
  clear hK' K'
  refine runD_call (p42y ra ra) rfl rfl rfl rfl ?_
  refine runD_end (z := false) fun K' hK' => hK' _ _ _ _ (hK _ _ _ ?_)
  clear hK' K' hK K
  refine vc_cond (t := false) (bb (fo_b _)) (fun h => by cases h) (fun _ => ?_)
  refine vc_skip ?_
  refine vc_seq ?_
  refine vc_seq ?_
  refine vc_reg (by kernel_rfl) fun K hK => ?_
  refine run_n (z := false) 2 (fun K' hK' => hK' _ _ _ ?_) (by decide)
  clear hK' K'
  refine run_call (p42y ra rb) rfl rfl rfl rfl ?_
  refine run_n (z := false) 2 (fun K' hK' => hK' _ _ _ ?_) (by decide)
  clear hK' K'
  refine vgo_known 45 (b := true) (bb (fo_le h1.1)) ?_
  refine run_n (z := false) 2 (fun K' hK' => hK' _ _ _ ?_) (by decide)
  clear hK' K'
  refine run_call (p42y rb rc) rfl rfl rfl rfl ?_
  refine run_n (z := false) 3 (fun K' hK' => hK' _ _ _ ?_) (by decide)
  clear hK' K'
  refine vgo_known 51 (b := true) (bb (fo_le h1.2)) ?_
  refine run_n (z := false) 2 (fun K' hK' => hK' _ _ _ ?_) (by decide)
  clear hK' K'
  refine run_call (p42y ra rc) rfl rfl rfl rfl ?_
  refine run_end (z := false) fun K' hK' => hK' _ _ _ (hK _ _ _ ?_)
  clear hK' K' hK K
  refine vc_cond (t := false) (bb (fo_ngt (fo_tr (show 0 < w by omega) h1.1 h1.2))) (fun h => by cases h) (fun _ => ?_)
  refine vc_skip ?_
  refine vc_seq ?_
  refine vc_go (by kernel_rfl) fun K hK => hK _ _ _ ?_
  clear hK K
  refine vc_seq ?_
  refine vc_reg (by kernel_rfl) fun K hK => ?_
  refine run_n (z := false) 4 (fun K' hK' => hK' _ _ _ ?_) (by decide)
  clear hK' K'
  refine run_call (p63r ra hk h2) rfl rfl rfl rfl ?_
  refine run_end (z := false) fun K' hK' => hK' _ _ _ (hK _ _ _ ?_)
  clear hK' K' hK K
  refine vc_seq ?_
  refine vc_reg (by kernel_rfl) fun K hK => ?_
  refine run_n (z := false) 4 (fun K' hK' => hK' _ _ _ ?_) (by decide)
  clear hK' K'
  refine run_call (hx) rfl rfl rfl rfl ?_
  refine run_end (z := false) fun K' hK' => hK' _ _ _ (hK _ _ _ ?_)
  clear hK' K' hK K
  refine vc_seq ?_
  refine vc_seq ?_
  refine vc_go (by kernel_rfl) fun K hK => hK _ _ _ ?_
  clear hK K
  refine vc_cond (t := true) rfl (fun _ => ?_) (fun h => by cases h)
  refine vc_seq ?_
  refine vc_go (by kernel_rfl) fun K hK => hK _ _ _ ?_
  clear hK K
  exact vc_ret ⟨.inr rfl, rfl⟩

theorem p15CY {a v b w c u : Nat} (ra : rt a v = true) (rb : rt b w = true) (rc : rt c u = true) (h1 : a * w ≤ b * v ∧ b * u ≤ c * w) (h2 : a + c % 2 ^ 64 < 2 ^ 100 ∧ ¬ b + c % 2 ^ 64 < 2 ^ 100) : Pure 15 [fr a v, fr b w, fr c u] (.bool true) := by
  have ww := rt_w rb
  have wv := rt_wt ra
  have rbv : rt b v = true := rt_mk wv ww.2.2
  have hk : c % 2 ^ 64 < 2 ^ 64 := Nat.mod_lt _ (by decide)
  refine pure_of Try.func15 rfl Try.ntmps15 (by kernel_rfl) rfl (by simp) rfl ?_
  refine vc_seq ?_
  refine vc_go (by kernel_rfl) fun K hK => hK _ _ _ ?_
  clear hK K
  refine vc_seq ?_
  refine vc_seq ?_
  refine vc_reg (by kernel_rfl) fun K hK => ?_
  refine run_call (p52) rfl rfl rfl rfl ?_
  refine run_end (z := false) fun K' hK' => hK' _ _ _ (hK _ _ _ ?_)
  clear hK' K' hK K
  refine vc_cond (t := false) rfl (fun h => by cases h) (fun _ => ?_)
  refine vc_skip ?_
  refine vc_seq ?_
  refine vc_seq ?_
  refine vc_reg (by kernel_rfl) fun K hK => ?_
  refine run_n (z := false) 1 (fun K' hK' => hK' _ _ _ ?_) (by decide)
  clear hK' K'
  refine run_call (p57y ra) rfl rfl rfl rfl ?_
  refine run_n (z := false) 3 (fun K' hK' => hK' _ _ _ ?_) (by decide)
  clear hK' K'
  refine run_call (p57y rb) rfl rfl rfl rfl ?_
  refine run_n (z := false) 4 (fun K' hK' => hK' _ _ _ ?_) (by decide)
  clear hK' K'
  refine run_call (p57y rc) rfl rfl rfl rfl ?_
  refine run_end (z := false) fun K' hK' => hK' _ _ _ (hK _ _ _ ?_)
  clear hK' K' hK K
  refine vc_cond (t := false) rfl (fun h => by cases h) (fun _ => ?_)
  refine vc_skip ?_
  refine vc_seq ?_
  refine vc_seq ?_
  refine vc_regD [(2, 3), (2, 4)] (by kernel_rfl) (by kernel_rfl) fun K hK => ?_
  refine runD_n (z := false) 2 (fun K' hK' => hK' _ _ _ _ ?_) (by decide)
  clear hK' K'
  refine runD_call (p42y ra rb) rfl rfl rfl rfl ?_
  refine runD_n (z := false) 2 (fun K' hK' => hK' _ _ _ _ ?_) (by decide)
  clear hK' K'
  refine runD_call (p42y rb ra) rfl rfl rfl rfl ?_
  refine runD_n (z := false) 3 (fun K' hK' => hK' _ _ _ _ ?_) (by decide)
  clear hK' K'
  refine W_known 35 (b := false) (bb (fo_a _ _)) ?_
  refine runD_n (z := false) 2 (fun K' hK' => hK' _ _ _ _ ?_) (by decide)
  clear hK' K'
  refine runD_call (p42y ra ra) rfl rfl rfl rfl ?_
  refine runD_end (z := false) fun K' hK' => hK' _ _ _ _ (hK _ _ _ ?_)
  clear hK' K' hK K
  refine vc_cond (t := false) (bb (fo_b _)) (fun h => by cases h) (fun _ => ?_)
  refine vc_skip ?_
  refine vc_seq ?_
  refine vc_seq ?_
  refine vc_reg (by kernel_rfl) fun K hK => ?_
  refine run_n (z := false) 2 (fun K' hK' => hK' _ _ _ ?_) (by decide)
  clear hK' K'
  refine run_call (p42y ra rb) rfl rfl rfl rfl ?_
  refine run_n (z := false) 2 (fun K' hK' => hK' _ _ _ ?_) (by decide)
  clear hK' K'
  refine vgo_known 45 (b := true) (bb (fo_le h1.1)) ?_
  refine run_n (z := false) 2 (fun K' hK' => hK' _ _ _ ?_) (by decide)
  clear hK' K'
  refine run_call (p42y rb rc) rfl rfl rfl rfl ?_
  refine run_n (z := false) 3 (fun K' hK' => hK' _ _ _ ?_) (by decide)
  clear hK' K'
  refine vgo_known 51 (b := true) (bb (fo_le h1.2)) ?_
  refine run_n (z := false) 2 (fun K' hK' => hK' _ _ _ ?_) (by decide)
  clear hK' K'
  refine run_call (p42y ra rc) rfl rfl rfl rfl ?_
  refine run_end (z := false) fun K' hK' => hK' _ _ _ (hK _ _ _ ?_)
  clear hK' K' hK K
  refine vc_cond (t := false) (bb (fo_ngt (fo_tr (show 0 < w by omega) h1.1 h1.2))) (fun h => by cases h) (fun _ => ?_)
  refine vc_skip ?_
  refine vc_seq ?_
  refine vc_go (by kernel_rfl) fun K hK => hK _ _ _ ?_
  clear hK K
  refine vc_seq ?_
  refine vc_reg (by kernel_rfl) fun K hK => ?_
  refine run_n (z := false) 4 (fun K' hK' => hK' _ _ _ ?_) (by decide)
  clear hK' K'
  refine run_call (p63y ra hk h2.1) rfl rfl rfl rfl ?_
  refine run_end (z := false) fun K' hK' => hK' _ _ _ (hK _ _ _ ?_)
  clear hK' K' hK K
  refine vc_seq ?_
  refine vc_reg (by kernel_rfl) fun K hK => ?_
  refine run_n (z := false) 4 (fun K' hK' => hK' _ _ _ ?_) (by decide)
  clear hK' K'
  refine run_call (p63r rbv hk h2.2) rfl rfl rfl rfl ?_
  refine run_end (z := false) fun K' hK' => hK' _ _ _ (hK _ _ _ ?_)
  clear hK' K' hK K
  refine vc_seq ?_
  refine vc_seq ?_
  refine vc_go (by kernel_rfl) fun K hK => hK _ _ _ ?_
  clear hK K
  refine vc_cond (t := true) rfl (fun _ => ?_) (fun h => by cases h)
  refine vc_seq ?_
  refine vc_go (by kernel_rfl) fun K hK => hK _ _ _ ?_
  clear hK K
  exact vc_ret ⟨.inr rfl, rfl⟩

theorem p15CZ {a v b w c u : Nat} (ra : rt a v = true) (rb : rt b w = true) (rc : rt c u = true) (h1 : a * w ≤ b * v ∧ b * u ≤ c * w) (h2 : a + c % 2 ^ 64 < 2 ^ 100 ∧ b + c % 2 ^ 64 < 2 ^ 100) : Pure 15 [fr a v, fr b w, fr c u] (.bool true) := by
  have ww := rt_w rb
  have wv := rt_wt ra
  have rbv : rt b v = true := rt_mk wv ww.2.2
  have hk : c % 2 ^ 64 < 2 ^ 64 := Nat.mod_lt _ (by decide)
  have rx : rt (a + c % 2 ^ 64) v = true := rt_mk wv h2.1
  have ry : rt (b + c % 2 ^ 64) v = true := rt_mk wv h2.2
  have h62 := p62y rx hk
  rw [Nat.add_sub_cancel] at h62
  have hv0 : 0 < v := by have := rt_w ra; omega
  refine pure_of Try.func15 rfl Try.ntmps15 (by kernel_rfl) rfl (by simp) rfl ?_
  refine vc_seq ?_
  refine vc_go (by kernel_rfl) fun K hK => hK _ _ _ ?_
  clear hK K
  refine vc_seq ?_
  refine vc_seq ?_
  refine vc_reg (by kernel_rfl) fun K hK => ?_
  refine run_call (p52) rfl rfl rfl rfl ?_
  refine run_end (z := false) fun K' hK' => hK' _ _ _ (hK _ _ _ ?_)
  clear hK' K' hK K
  refine vc_cond (t := false) rfl (fun h => by cases h) (fun _ => ?_)
  refine vc_skip ?_
  refine vc_seq ?_
  refine vc_seq ?_
  refine vc_reg (by kernel_rfl) fun K hK => ?_
  refine run_n (z := false) 1 (fun K' hK' => hK' _ _ _ ?_) (by decide)
  clear hK' K'
  refine run_call (p57y ra) rfl rfl rfl rfl ?_
  refine run_n (z := false) 3 (fun K' hK' => hK' _ _ _ ?_) (by decide)
  clear hK' K'
  refine run_call (p57y rb) rfl rfl rfl rfl ?_
  refine run_n (z := false) 4 (fun K' hK' => hK' _ _ _ ?_) (by decide)
  clear hK' K'
  refine run_call (p57y rc) rfl rfl rfl rfl ?_
  refine run_end (z := false) fun K' hK' => hK' _ _ _ (hK _ _ _ ?_)
  clear hK' K' hK K
  refine vc_cond (t := false) rfl (fun h => by cases h) (fun _ => ?_)
  refine vc_skip ?_
  refine vc_seq ?_
  refine vc_seq ?_
  refine vc_regD [(2, 3), (2, 4)] (by kernel_rfl) (by kernel_rfl) fun K hK => ?_
  refine runD_n (z := false) 2 (fun K' hK' => hK' _ _ _ _ ?_) (by decide)
  clear hK' K'
  refine runD_call (p42y ra rb) rfl rfl rfl rfl ?_
  refine runD_n (z := false) 2 (fun K' hK' => hK' _ _ _ _ ?_) (by decide)
  clear hK' K'
  refine runD_call (p42y rb ra) rfl rfl rfl rfl ?_
  refine runD_n (z := false) 3 (fun K' hK' => hK' _ _ _ _ ?_) (by decide)
  clear hK' K'
  refine W_known 35 (b := false) (bb (fo_a _ _)) ?_
  refine runD_n (z := false) 2 (fun K' hK' => hK' _ _ _ _ ?_) (by decide)
  clear hK' K'
  refine runD_call (p42y ra ra) rfl rfl rfl rfl ?_
  refine runD_end (z := false) fun K' hK' => hK' _ _ _ _ (hK _ _ _ ?_)
  clear hK' K' hK K
  refine vc_cond (t := false) (bb (fo_b _)) (fun h => by cases h) (fun _ => ?_)
  refine vc_skip ?_
  refine vc_seq ?_
  refine vc_seq ?_
  refine vc_reg (by kernel_rfl) fun K hK => ?_
  refine run_n (z := false) 2 (fun K' hK' => hK' _ _ _ ?_) (by decide)
  clear hK' K'
  refine run_call (p42y ra rb) rfl rfl rfl rfl ?_
  refine run_n (z := false) 2 (fun K' hK' => hK' _ _ _ ?_) (by decide)
  clear hK' K'
  refine vgo_known 45 (b := true) (bb (fo_le h1.1)) ?_
  refine run_n (z := false) 2 (fun K' hK' => hK' _ _ _ ?_) (by decide)
  clear hK' K'
  refine run_call (p42y rb rc) rfl rfl rfl rfl ?_
  refine run_n (z := false) 3 (fun K' hK' => hK' _ _ _ ?_) (by decide)
  clear hK' K'
  refine vgo_known 51 (b := true) (bb (fo_le h1.2)) ?_
  refine run_n (z := false) 2 (fun K' hK' => hK' _ _ _ ?_) (by decide)
  clear hK' K'
  refine run_call (p42y ra rc) rfl rfl rfl rfl ?_
  refine run_end (z := false) fun K' hK' => hK' _ _ _ (hK _ _ _ ?_)
  clear hK' K' hK K
  refine vc_cond (t := false) (bb (fo_ngt (fo_tr (show 0 < w by omega) h1.1 h1.2))) (fun h => by cases h) (fun _ => ?_)
  refine vc_skip ?_
  refine vc_seq ?_
  refine vc_go (by kernel_rfl) fun K hK => hK _ _ _ ?_
  clear hK K
  refine vc_seq ?_
  refine vc_reg (by kernel_rfl) fun K hK => ?_
  refine run_n (z := false) 4 (fun K' hK' => hK' _ _ _ ?_) (by decide)
  clear hK' K'
  refine run_call (p63y ra hk h2.1) rfl rfl rfl rfl ?_
  refine run_end (z := false) fun K' hK' => hK' _ _ _ (hK _ _ _ ?_)
  clear hK' K' hK K
  refine vc_seq ?_
  refine vc_reg (by kernel_rfl) fun K hK => ?_
  refine run_n (z := false) 4 (fun K' hK' => hK' _ _ _ ?_) (by decide)
  clear hK' K'
  refine run_call (p63y rbv hk h2.2) rfl rfl rfl rfl ?_
  refine run_end (z := false) fun K' hK' => hK' _ _ _ (hK _ _ _ ?_)
  clear hK' K' hK K
  refine vc_seq ?_
  refine vc_seq ?_
  refine vc_go (by kernel_rfl) fun K hK => hK _ _ _ ?_
  clear hK K
  refine vc_cond (t := false) rfl (fun h => by cases h) (fun _ => ?_)
  refine vc_skip ?_
  refine vc_seq ?_
  refine vc_reg (by kernel_rfl) fun K hK => ?_
  refine run_n (z := false) 4 (fun K' hK' => hK' _ _ _ ?_) (by decide)
  clear hK' K'
  refine run_call (h62) rfl rfl rfl rfl ?_
  refine run_end (z := false) fun K' hK' => hK' _ _ _ (hK _ _ _ ?_)
  clear hK' K' hK K
  refine vc_seq ?_
  refine vc_regD [(10, 11), (10, 12)] (by kernel_rfl) (by kernel_rfl) fun K hK => ?_
  refine runD_n (z := false) 8 (fun K' hK' => hK' _ _ _ _ ?_) (by decide)
  clear hK' K'
  refine W_known 97 (b := true) (bb (fr_eq a v)) ?_
  refine runD_n (z := false) 2 (fun K' hK' => hK' _ _ _ _ ?_) (by decide)
  clear hK' K'
  refine runD_call (p42y rx ry) rfl rfl rfl rfl ?_
  refine runD_n (z := false) 2 (fun K' hK' => hK' _ _ _ _ ?_) (by decide)
  clear hK' K'
  refine runD_call (p42y ra rbv) rfl rfl rfl rfl ?_
  refine runD_end (z := false) fun K' hK' => hK' _ _ _ _ (hK _ _ _ ?_)
  clear hK' K' hK K
  refine vc_ret ⟨.inr rfl, ?_⟩
  exact Eq.trans (b := some (.bool _)) rfl (fin_b (by rw [cmpW_mul hv0, cmpW_mul hv0, cmpW_shift, beq_self_eq_true]))

theorem p15 (a v b w c u : Nat) : Pure 15 [fr a v, fr b w, fr c u] (.bool true) := by
  cases ra : rt a v
  · exact p15a ra
  cases rb : rt b w
  · exact p15b ra rb
  cases rc : rt c u
  · exact p15c ra rb rc
  by_cases h1 : a * w ≤ b * v
  · by_cases h2 : b * u ≤ c * w
    · by_cases h3 : a + c % 2 ^ 64 < 2 ^ 100
      · by_cases h4 : b + c % 2 ^ 64 < 2 ^ 100
        · exact p15CZ ra rb rc ⟨h1, h2⟩ ⟨h3, h4⟩
        · exact p15CY ra rb rc ⟨h1, h2⟩ ⟨h3, h4⟩
      · exact p15CX ra rb rc ⟨h1, h2⟩ h3
    · by_cases h3 : a + c % 2 ^ 64 < 2 ^ 100
      · by_cases h4 : b + c % 2 ^ 64 < 2 ^ 100
        · exact p15BZ ra rb rc ⟨h1, h2⟩ ⟨h3, h4⟩
        · exact p15BY ra rb rc ⟨h1, h2⟩ ⟨h3, h4⟩
      · exact p15BX ra rb rc ⟨h1, h2⟩ h3
  · by_cases h3 : a + c % 2 ^ 64 < 2 ^ 100
    · by_cases h4 : b + c % 2 ^ 64 < 2 ^ 100
      · exact p15AZ ra rb rc h1 ⟨h3, h4⟩
      · exact p15AY ra rb rc h1 ⟨h3, h4⟩
    · exact p15AX ra rb rc h1 h3

end Go.Proofs.Ytdfkcijholopoaa.Vm
