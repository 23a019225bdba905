/- WideBack: there and back. -/
import Derived.Test.YtdfkcijholopoaaSd
namespace Go.Proofs.Ytdfkcijholopoaa.Vm
open Go Go.RowKit
set_option maxRecDepth 10000
set_option linter.unusedSimpArgs false
set_option linter.unusedVariables false

theorem wd_same (n : Nat) : (!((((n / 2 ^ 64 : Nat) : Int) == ((n / 2 ^ 64 : Nat) : Int)) && (((n % 2 ^ 64 : Nat) : Int) == ((n % 2 ^ 64 : Nat) : Int)))) = false := by simp
theorem wd_same' (n : Nat) : ((((n / 2 ^ 64 : Nat) : Int) == ((n / 2 ^ 64 : Nat) : Int)) && (((n % 2 ^ 64 : Nat) : Int) == ((n % 2 ^ 64 : Nat) : Int))) = true := by simp
theorem wd_hi {n : Nat} (h : n < 2 ^ 64) : Value.agg #[.int .u64 ((n % 2 ^ 64 : Nat) : Int), .int .u64 0] = wd (n * 2 ^ 64) := by
  unfold wd
  rw [show n * 2 ^ 64 / 2 ^ 64 = n % 2 ^ 64 by omega, show n * 2 ^ 64 % 2 ^ 64 = 0 by omega]
  rfl
theorem back_lo {q d a : Nat} (h : q * d ≤ a) (ha : a < 2 ^ 128) (hd : 0 < d) : q / 2 ^ 64 * d < 2 ^ 64 ∧ q % 2 ^ 64 * d + q / 2 ^ 64 * d * 2 ^ 64 = q * d := by
  have e : q * d = q % 2 ^ 64 * d + q / 2 ^ 64 * d * 2 ^ 64 := by
    have := (Nat.mod_add_div q (2 ^ 64)).symm
    generalize q % 2 ^ 64 = r at *
    generalize q / 2 ^ 64 = s at *
    subst this
    rw [Nat.add_mul, Nat.mul_comm (2 ^ 64) s, Nat.mul_right_comm]
  refine ⟨?_, e.symm⟩
  rw [e] at h
  generalize q % 2 ^ 64 * d = x at *
  generalize q / 2 ^ 64 * d = y at *
  omega

theorem p10AZ {a b d : Nat} (ha : a < 2 ^ 128) (hb : b < 2 ^ 128) (hd : d < 2 ^ 64) (hs : a + b < 2 ^ 128) (hz : d = 0) : Pure 10 [wd a, wd b, u64 d] (.bool true) := by
  have h51 := p51 ha
  have h50 := p50 ha
  have h30 := p30 a b ha hb
  have h22 := p22 ha hd
  rw [if_pos hs] at h30
  have h36 := p36 (a + b) b hs hb
  rw [if_neg (by omega), Nat.add_sub_cancel] at h36
  have k36 := p36 (a + b) a hs ha
  rw [if_neg (by omega), Nat.add_sub_cancel_left] at k36
  rw [div3_zero hz] at h22
  subst hz
  refine pure_of Try.func10 rfl Try.ntmps10 (by kernel_rfl) rfl (by simp) rfl ?_
  refine vc_seq ?_
  refine vc_go (by kernel_rfl) fun K hK => hK _ _ _ ?_
  clear hK K
  refine vc_seq ?_
  refine vc_seq ?_
  refine vc_reg (by kernel_rfl) fun K hK => ?_
  refine run_call (p21) rfl rfl rfl rfl ?_
  refine run_end (z := false) fun K' hK' => hK' _ _ _ (hK _ _ _ ?_)
  clear hK' K' hK K
  refine vc_cond (t := false) rfl (fun h => by cases h) (fun _ => ?_)
  refine vc_skip ?_
  refine vc_seq ?_
  refine vc_seq ?_
  refine vc_reg (by kernel_rfl) fun K hK => ?_
  refine run_n (z := false) 2 (fun K' hK' => hK' _ _ _ ?_) (by decide)
  clear hK' K'
  refine run_call (h30) rfl rfl rfl rfl ?_
  refine run_end (z := false) fun K' hK' => hK' _ _ _ (hK _ _ _ ?_)
  clear hK' K' hK K
  refine vc_seq ?_
  refine vc_go (by kernel_rfl) fun K hK => hK _ _ _ ?_
  clear hK K
  refine vc_cond (t := true) rfl (fun _ => ?_) (fun h => by cases h)
  refine vc_seq ?_
  refine vc_reg (by kernel_rfl) fun K hK => ?_
  refine run_n (z := false) 2 (fun K' hK' => hK' _ _ _ ?_) (by decide)
  clear hK' K'
  refine run_call (h36) rfl rfl rfl rfl ?_
  refine run_end (z := false) fun K' hK' => hK' _ _ _ (hK _ _ _ ?_)
  clear hK' K' hK K
  refine vc_seq ?_
  refine vc_reg (by kernel_rfl) fun K hK => ?_
  refine run_n (z := false) 2 (fun K' hK' => hK' _ _ _ ?_) (by decide)
  clear hK' K'
  refine run_call (k36) rfl rfl rfl rfl ?_
  refine run_end (z := false) fun K' hK' => hK' _ _ _ (hK _ _ _ ?_)
  clear hK' K' hK K
  refine vc_seq ?_
  refine vc_reg (by kernel_rfl) fun K hK => ?_
  refine run_n (z := false) 3 (fun K' hK' => hK' _ _ _ ?_) (by decide)
  clear hK' K'
  refine vgo_known 47 (b := false) (rfl) ?_
  refine run_n (z := false) 4 (fun K' hK' => hK' _ _ _ ?_) (by decide)
  clear hK' K'
  refine vgo_known 51 (b := false) (rfl) ?_
  refine run_n (z := false) 5 (fun K' hK' => hK' _ _ _ ?_) (by decide)
  clear hK' K'
  refine vgo_known 56 (b := false) (bb (wd_same a)) ?_
  refine run_end (z := false) fun K' hK' => hK' _ _ _ (hK _ _ _ ?_)
  clear hK' K' hK K
  refine vc_cond (t := false) (bb (wd_same b)) (fun h => by cases h) (fun _ => ?_)
  refine vc_skip ?_
  refine vc_seq ?_
  refine vc_seq ?_
  refine vc_reg (by kernel_rfl) fun K hK => ?_
  refine run_n (z := false) 1 (fun K' hK' => hK' _ _ _ ?_) (by decide)
  clear hK' K'
  refine run_call (h51) rfl rfl rfl rfl ?_
  refine run_call (h50) rfl rfl rfl rfl ?_
  refine run_end (z := false) fun K' hK' => hK' _ _ _ (hK _ _ _ ?_)
  clear hK' K' hK K
  refine vc_seq ?_
  refine vc_reg (by kernel_rfl) fun K hK => ?_
  refine run_n (z := false) 3 (fun K' hK' => hK' _ _ _ ?_) (by decide)
  clear hK' K'
  refine vgo_known 69 (b := false) (rfl) ?_
  refine run_end (z := false) fun K' hK' => hK' _ _ _ (hK _ _ _ ?_)
  clear hK' K' hK K
  refine vc_cond (t := false) (bb (wd_same a)) (fun h => by cases h) (fun _ => ?_)
  refine vc_skip ?_
  refine vc_seq ?_
  refine vc_reg (by kernel_rfl) fun K hK => ?_
  refine run_n (z := false) 2 (fun K' hK' => hK' _ _ _ ?_) (by decide)
  clear hK' K'
  refine run_call (h22) rfl rfl rfl rfl ?_
  refine run_end (z := false) fun K' hK' => hK' _ _ _ (hK _ _ _ ?_)
  clear hK' K' hK K
  refine vc_seq ?_
  refine vc_seq ?_
  refine vc_go (by kernel_rfl) fun K hK => hK _ _ _ ?_
  clear hK K
  refine vc_cond (t := true) rfl (fun _ => ?_) (fun h => by cases h)
  refine vc_seq ?_
  refine vc_go (by kernel_rfl) fun K hK => hK _ _ _ ?_
  clear hK K
  exact vc_ret ⟨.inr rfl, rfl⟩
theorem p10AP {a b d : Nat} (ha : a < 2 ^ 128) (hb : b < 2 ^ 128) (hd : d < 2 ^ 64) (hs : a + b < 2 ^ 128) (hz : 0 < d) : Pure 10 [wd a, wd b, u64 d] (.bool true) := by
  have h51 := p51 ha
  have h50 := p50 ha
  have h30 := p30 a b ha hb
  have h22 := p22 ha hd
  rw [if_pos hs] at h30
  have h36 := p36 (a + b) b hs hb
  rw [if_neg (by omega), Nat.add_sub_cancel] at h36
  have k36 := p36 (a + b) a hs ha
  rw [if_neg (by omega), Nat.add_sub_cancel_left] at k36
  rw [div3_pos hz] at h22
  have hqd : a / d * d ≤ a := Nat.div_mul_le_self a d
  obtain ⟨e1, e2⟩ := back_lo hqd ha hz
  have hq : a / d < 2 ^ 128 := Nat.lt_of_le_of_lt (Nat.div_le_self _ _) ha
  have hr : a % d < d := Nat.mod_lt a hz
  have q1 : a / d % 2 ^ 64 < 2 ^ 64 := Nat.mod_lt _ (by decide)
  have q2 : a / d / 2 ^ 64 < 2 ^ 64 := by omega
  have h33 := p33 q1 hd
  have k33 := p33 q2 hd
  have hlo : a / d % 2 ^ 64 * d < 2 ^ 128 := by omega
  have j30 := p30 (a / d % 2 ^ 64 * d) (a / d / 2 ^ 64 * d * 2 ^ 64) hlo (by omega)
  rw [e2, if_pos (by omega)] at j30
  have l30 := p30 (a / d * d) (a % d) (by omega) (by omega)
  have hda : a / d * d + a % d = a := by rw [Nat.mul_comm]; exact Nat.div_add_mod a d
  rw [hda, if_pos ha] at l30
  have h34 := p34w (a := a % d) (by omega)
  refine pure_of Try.func10 rfl Try.ntmps10 (by kernel_rfl) rfl (by simp) rfl ?_
  refine vc_seq ?_
  refine vc_go (by kernel_rfl) fun K hK => hK _ _ _ ?_
  clear hK K
  refine vc_seq ?_
  refine vc_seq ?_
  refine vc_reg (by kernel_rfl) fun K hK => ?_
  refine run_call (p21) rfl rfl rfl rfl ?_
  refine run_end (z := false) fun K' hK' => hK' _ _ _ (hK _ _ _ ?_)
  clear hK' K' hK K
  refine vc_cond (t := false) rfl (fun h => by cases h) (fun _ => ?_)
  refine vc_skip ?_
  refine vc_seq ?_
  refine vc_seq ?_
  refine vc_reg (by kernel_rfl) fun K hK => ?_
  refine run_n (z := false) 2 (fun K' hK' => hK' _ _ _ ?_) (by decide)
  clear hK' K'
  refine run_call (h30) rfl rfl rfl rfl ?_
  refine run_end (z := false) fun K' hK' => hK' _ _ _ (hK _ _ _ ?_)
  clear hK' K' hK K
  refine vc_seq ?_
  refine vc_go (by kernel_rfl) fun K hK => hK _ _ _ ?_
  clear hK K
  refine vc_cond (t := true) rfl (fun _ => ?_) (fun h => by cases h)
  refine vc_seq ?_
  refine vc_reg (by kernel_rfl) fun K hK => ?_
  refine run_n (z := false) 2 (fun K' hK' => hK' _ _ _ ?_) (by decide)
  clear hK' K'
  refine run_call (h36) rfl rfl rfl rfl ?_
  refine run_end (z := false) fun K' hK' => hK' _ _ _ (hK _ _ _ ?_)
  clear hK' K' hK K
  refine vc_seq ?_
  refine vc_reg (by kernel_rfl) fun K hK => ?_
  refine run_n (z := false) 2 (fun K' hK' => hK' _ _ _ ?_) (by decide)
  clear hK' K'
  refine run_call (k36) rfl rfl rfl rfl ?_
  refine run_end (z := false) fun K' hK' => hK' _ _ _ (hK _ _ _ ?_)
  clear hK' K' hK K
  refine vc_seq ?_
  refine vc_reg (by kernel_rfl) fun K hK => ?_
  refine run_n (z := false) 3 (fun K' hK' => hK' _ _ _ ?_) (by decide)
  clear hK' K'
  refine vgo_known 47 (b := false) (rfl) ?_
  refine run_n (z := false) 4 (fun K' hK' => hK' _ _ _ ?_) (by decide)
  clear hK' K'
  refine vgo_known 51 (b := false) (rfl) ?_
  refine run_n (z := false) 5 (fun K' hK' => hK' _ _ _ ?_) (by decide)
  clear hK' K'
  refine vgo_known 56 (b := false) (bb (wd_same a)) ?_
  refine run_end (z := false) fun K' hK' => hK' _ _ _ (hK _ _ _ ?_)
  clear hK' K' hK K
  refine vc_cond (t := false) (bb (wd_same b)) (fun h => by cases h) (fun _ => ?_)
  refine vc_skip ?_
  refine vc_seq ?_
  refine vc_seq ?_
  refine vc_reg (by kernel_rfl) fun K hK => ?_
  refine run_n (z := false) 1 (fun K' hK' => hK' _ _ _ ?_) (by decide)
  clear hK' K'
  refine run_call (h51) rfl rfl rfl rfl ?_
  refine run_call (h50) rfl rfl rfl rfl ?_
  refine run_end (z := false) fun K' hK' => hK' _ _ _ (hK _ _ _ ?_)
  clear hK' K' hK K
  refine vc_seq ?_
  refine vc_reg (by kernel_rfl) fun K hK => ?_
  refine run_n (z := false) 3 (fun K' hK' => hK' _ _ _ ?_) (by decide)
  clear hK' K'
  refine vgo_known 69 (b := false) (rfl) ?_
  refine run_end (z := false) fun K' hK' => hK' _ _ _ (hK _ _ _ ?_)
  clear hK' K' hK K
  refine vc_cond (t := false) (bb (wd_same a)) (fun h => by cases h) (fun _ => ?_)
  refine vc_skip ?_
  refine vc_seq ?_
  refine vc_reg (by kernel_rfl) fun K hK => ?_
  refine run_n (z := false) 2 (fun K' hK' => hK' _ _ _ ?_) (by decide)
  clear hK' K'
  refine run_call (h22) rfl rfl rfl rfl ?_
  refine run_end (z := false) fun K' hK' => hK' _ _ _ (hK _ _ _ ?_)
  clear hK' K' hK K
  refine vc_seq ?_
  refine vc_seq ?_
  refine vc_go (by kernel_rfl) fun K hK => hK _ _ _ ?_
  clear hK K
  refine vc_cond (t := false) rfl (fun h => by cases h) (fun _ => ?_)
  refine vc_skip ?_
  refine vc_seq ?_
  refine vc_regD [(3, 5), (1, 8), (3, 8), (5, 8), (7, 8), (1, 9), (3, 9), (5, 9), (7, 9), (8, 9)] (by kernel_rfl) (by kernel_rfl) fun K hK => ?_
  refine runD_n (z := false) 3 (fun K' hK' => hK' _ _ _ _ ?_) (by decide)
  clear hK' K'
  refine runD_call (h33) rfl rfl rfl rfl ?_
  refine runD_n (z := false) 3 (fun K' hK' => hK' _ _ _ _ ?_) (by decide)
  clear hK' K'
  refine runD_call (k33) rfl rfl rfl rfl ?_
  refine runD_end (z := false) fun K' hK' => hK' _ _ _ _ (hK _ _ _ ?_)
  clear hK' K' hK K
  refine vc_seq ?_
  refine vc_seq ?_
  refine vc_reg (by kernel_rfl) fun K hK => ?_
  refine run_n (z := false) 4 (fun K' hK' => hK' _ _ _ ?_) (by decide)
  clear hK' K'
  refine vgo_known 96 (b := false) (bb (by rw [decide_eq_false_iff_not]; omega)) ?_
  refine run_end (z := false) fun K' hK' => hK' _ _ _ (hK _ _ _ ?_)
  clear hK' K' hK K
  refine vc_cond (t := false) (bb (by rw [decide_eq_false_iff_not]; omega)) (fun h => by cases h) (fun _ => ?_)
  refine vc_skip ?_
  refine vc_seq ?_
  refine vc_reg (by kernel_rfl) fun K hK => ?_
  refine run_n (z := false) 4 (fun K' hK' => hK' _ _ _ ?_) (by decide)
  clear hK' K'
  refine run_call j30 rfl (congrArg (fun x => [wd (a / d % 2 ^ 64 * d), x]) (wd_hi e1)) rfl rfl ?_
  refine run_end (z := false) fun K' hK' => hK' _ _ _ (hK _ _ _ ?_)
  clear hK' K' hK K
  refine vc_seq ?_
  refine vc_regD [(0, 2), (0, 7), (2, 7), (3, 7)] (by kernel_rfl) (by kernel_rfl) fun K hK => ?_
  refine runD_n (z := false) 2 (fun K' hK' => hK' _ _ _ _ ?_) (by decide)
  clear hK' K'
  refine runD_call (h34) rfl rfl rfl rfl ?_
  refine runD_call (l30) rfl rfl rfl rfl ?_
  refine runD_end (z := false) fun K' hK' => hK' _ _ _ _ (hK _ _ _ ?_)
  clear hK' K' hK K
  refine vc_seq ?_
  refine vc_reg (by kernel_rfl) fun K hK => ?_
  refine run_n (z := false) 3 (fun K' hK' => hK' _ _ _ ?_) (by decide)
  clear hK' K'
  refine vgo_known 118 (b := true) (rfl) ?_
  refine run_n (z := false) 4 (fun K' hK' => hK' _ _ _ ?_) (by decide)
  clear hK' K'
  refine vgo_known 122 (b := true) (rfl) ?_
  refine run_end (z := false) fun K' hK' => hK' _ _ _ (hK _ _ _ ?_)
  clear hK' K' hK K
  refine vc_ret ⟨.inr rfl, ?_⟩
  exact Eq.trans (b := some (.bool _)) rfl (congrArg (fun b => some (Value.bool b)) (wd_same' a))
theorem p10BZ {a b d : Nat} (ha : a < 2 ^ 128) (hb : b < 2 ^ 128) (hd : d < 2 ^ 64) (hs : ¬ a + b < 2 ^ 128) (hz : d = 0) : Pure 10 [wd a, wd b, u64 d] (.bool true) := by
  have h51 := p51 ha
  have h50 := p50 ha
  have h30 := p30 a b ha hb
  have h22 := p22 ha hd
  rw [if_neg hs] at h30
  rw [div3_zero hz] at h22
  subst hz
  refine pure_of Try.func10 rfl Try.ntmps10 (by kernel_rfl) rfl (by simp) rfl ?_
  refine vc_seq ?_
  refine vc_go (by kernel_rfl) fun K hK => hK _ _ _ ?_
  clear hK K
  refine vc_seq ?_
  refine vc_seq ?_
  refine vc_reg (by kernel_rfl) fun K hK => ?_
  refine run_call (p21) rfl rfl rfl rfl ?_
  refine run_end (z := false) fun K' hK' => hK' _ _ _ (hK _ _ _ ?_)
  clear hK' K' hK K
  refine vc_cond (t := false) rfl (fun h => by cases h) (fun _ => ?_)
  refine vc_skip ?_
  refine vc_seq ?_
  refine vc_seq ?_
  refine vc_reg (by kernel_rfl) fun K hK => ?_
  refine run_n (z := false) 2 (fun K' hK' => hK' _ _ _ ?_) (by decide)
  clear hK' K'
  refine run_call (h30) rfl rfl rfl rfl ?_
  refine run_end (z := false) fun K' hK' => hK' _ _ _ (hK _ _ _ ?_)
  clear hK' K' hK K
  refine vc_seq ?_
  refine vc_go (by kernel_rfl) fun K hK => hK _ _ _ ?_
  clear hK K
  refine vc_cond (t := false) rfl (fun h => by cases h) (fun _ => ?_)
  refine vc_skip ?_
  refine vc_seq ?_
  refine vc_seq ?_
  refine vc_reg (by kernel_rfl) fun K hK => ?_
  refine run_n (z := false) 1 (fun K' hK' => hK' _ _ _ ?_) (by decide)
  clear hK' K'
  refine run_call (h51) rfl rfl rfl rfl ?_
  refine run_call (h50) rfl rfl rfl rfl ?_
  refine run_end (z := false) fun K' hK' => hK' _ _ _ (hK _ _ _ ?_)
  clear hK' K' hK K
  refine vc_seq ?_
  refine vc_reg (by kernel_rfl) fun K hK => ?_
  refine run_n (z := false) 3 (fun K' hK' => hK' _ _ _ ?_) (by decide)
  clear hK' K'
  refine vgo_known 69 (b := false) (rfl) ?_
  refine run_end (z := false) fun K' hK' => hK' _ _ _ (hK _ _ _ ?_)
  clear hK' K' hK K
  refine vc_cond (t := false) (bb (wd_same a)) (fun h => by cases h) (fun _ => ?_)
  refine vc_skip ?_
  refine vc_seq ?_
  refine vc_reg (by kernel_rfl) fun K hK => ?_
  refine run_n (z := false) 2 (fun K' hK' => hK' _ _ _ ?_) (by decide)
  clear hK' K'
  refine run_call (h22) rfl rfl rfl rfl ?_
  refine run_end (z := false) fun K' hK' => hK' _ _ _ (hK _ _ _ ?_)
  clear hK' K' hK K
  refine vc_seq ?_
  refine vc_seq ?_
  refine vc_go (by kernel_rfl) fun K hK => hK _ _ _ ?_
  clear hK K
  refine vc_cond (t := true) rfl (fun _ => ?_) (fun h => by cases h)
  refine vc_seq ?_
  refine vc_go (by kernel_rfl) fun K hK => hK _ _ _ ?_
  clear hK K
  exact vc_ret ⟨.inr rfl, rfl⟩
theorem p10BP {a b d : Nat} (ha : a < 2 ^ 128) (hb : b < 2 ^ 128) (hd : d < 2 ^ 64) (hs : ¬ a + b < 2 ^ 128) (hz : 0 < d) : Pure 10 [wd a, wd b, u64 d] (.bool true) := by
  have h51 := p51 ha
  have h50 := p50 ha
  have h30 := p30 a b ha hb
  have h22 := p22 ha hd
  rw [if_neg hs] at h30
  rw [div3_pos hz] at h22
  have hqd : a / d * d ≤ a := Nat.div_mul_le_self a d
  obtain ⟨e1, e2⟩ := back_lo hqd ha hz
  have hq : a / d < 2 ^ 128 := Nat.lt_of_le_of_lt (Nat.div_le_self _ _) ha
  have hr : a % d < d := Nat.mod_lt a hz
  have q1 : a / d % 2 ^ 64 < 2 ^ 64 := Nat.mod_lt _ (by decide)
  have q2 : a / d / 2 ^ 64 < 2 ^ 64 := by omega
  have h33 := p33 q1 hd
  have k33 := p33 q2 hd
  have hlo : a / d % 2 ^ 64 * d < 2 ^ 128 := by omega
  have j30 := p30 (a / d % 2 ^ 64 * d) (a / d / 2 ^ 64 * d * 2 ^ 64) hlo (by omega)
  rw [e2, if_pos (by omega)] at j30
  have l30 := p30 (a / d * d) (a % d) (by omega) (by omega)
  have hda : a / d * d + a % d = a := by rw [Nat.mul_comm]; exact Nat.div_add_mod a d
  rw [hda, if_pos ha] at l30
  have h34 := p34w (a := a % d) (by omega)
  refine pure_of Try.func10 rfl Try.ntmps10 (by kernel_rfl) rfl (by simp) rfl ?_
  refine vc_seq ?_
  refine vc_go (by kernel_rfl) fun K hK => hK _ _ _ ?_
  clear hK K
  refine vc_seq ?_
  refine vc_seq ?_
  refine vc_reg (by kernel_rfl) fun K hK => ?_
  refine run_call (p21) rfl rfl rfl rfl ?_
  refine run_end (z := false) fun K' hK' => hK' _ _ _ (hK _ _ _ ?_)
  clear hK' K' hK K
  refine vc_cond (t := false) rfl (fun h => by cases h) (fun _ => ?_)
  refine vc_skip ?_
  refine vc_seq ?_
  refine vc_seq ?_
  refine vc_reg (by kernel_rfl) fun K hK => ?_
  refine run_n (z := false) 2 (fun K' hK' => hK' _ _ _ ?_) (by decide)
  clear hK' K'
  refine run_call (h30) rfl rfl rfl rfl ?_
  refine run_end (z := false) fun K' hK' => hK' _ _ _ (hK _ _ _ ?_)
  clear hK' K' hK K
  refine vc_seq ?_
  refine vc_go (by kernel_rfl) fun K hK => hK _ _ _ ?_
  clear hK K
  refine vc_cond (t := false) rfl (fun h => by cases h) (fun _ => ?_)
  refine vc_skip ?_
  refine vc_seq ?_
  refine vc_seq ?_
  refine vc_reg (by kernel_rfl) fun K hK => ?_
  refine run_n (z := false) 1 (fun K' hK' => hK' _ _ _ ?_) (by decide)
  clear hK' K'
  refine run_call (h51) rfl rfl rfl rfl ?_
  refine run_call (h50) rfl rfl rfl rfl ?_
  refine run_end (z := false) fun K' hK' => hK' _ _ _ (hK _ _ _ ?_)
  clear hK' K' hK K
  refine vc_seq ?_
  refine vc_reg (by kernel_rfl) fun K hK => ?_
  refine run_n (z := false) 3 (fun K' hK' => hK' _ _ _ ?_) (by decide)
  clear hK' K'
  refine vgo_known 69 (b := false) (rfl) ?_
  refine run_end (z := false) fun K' hK' => hK' _ _ _ (hK _ _ _ ?_)
  clear hK' K' hK K
  refine vc_cond (t := false) (bb (wd_same a)) (fun h => by cases h) (fun _ => ?_)
  refine vc_skip ?_
  refine vc_seq ?_
  refine vc_reg (by kernel_rfl) fun K hK => ?_
  refine run_n (z := false) 2 (fun K' hK' => hK' _ _ _ ?_) (by decide)
  clear hK' K'
  refine run_call (h22) rfl rfl rfl rfl ?_
  refine run_end (z := false) fun K' hK' => hK' _ _ _ (hK _ _ _ ?_)
  clear hK' K' hK K
  refine vc_seq ?_
  refine vc_seq ?_
  refine vc_go (by kernel_rfl) fun K hK => hK _ _ _ ?_
  clear hK K
  refine vc_cond (t := false) rfl (fun h => by cases h) (fun _ => ?_)
  refine vc_skip ?_
  refine vc_seq ?_
  refine vc_regD [(3, 5), (1, 8), (3, 8), (5, 8), (7, 8), (1, 9), (3, 9), (5, 9), (7, 9), (8, 9)] (by kernel_rfl) (by kernel_rfl) fun K hK => ?_
  refine runD_n (z := false) 3 (fun K' hK' => hK' _ _ _ _ ?_) (by decide)
  clear hK' K'
  refine runD_call (h33) rfl rfl rfl rfl ?_
  refine runD_n (z := false) 3 (fun K' hK' => hK' _ _ _ _ ?_) (by decide)
  clear hK' K'
  refine runD_call (k33) rfl rfl rfl rfl ?_
  refine runD_end (z := false) fun K' hK' => hK' _ _ _ _ (hK _ _ _ ?_)
  clear hK' K' hK K
  refine vc_seq ?_
  refine vc_seq ?_
  refine vc_reg (by kernel_rfl) fun K hK => ?_
  refine run_n (z := false) 4 (fun K' hK' => hK' _ _ _ ?_) (by decide)
  clear hK' K'
  refine vgo_known 96 (b := false) (bb (by rw [decide_eq_false_iff_not]; omega)) ?_
  refine run_end (z := false) fun K' hK' => hK' _ _ _ (hK _ _ _ ?_)
  clear hK' K' hK K
  refine vc_cond (t := false) (bb (by rw [decide_eq_false_iff_not]; omega)) (fun h => by cases h) (fun _ => ?_)
  refine vc_skip ?_
  refine vc_seq ?_
  refine vc_reg (by kernel_rfl) fun K hK => ?_
  refine run_n (z := false) 4 (fun K' hK' => hK' _ _ _ ?_) (by decide)
  clear hK' K'
  refine run_call j30 rfl (congrArg (fun x => [wd (a / d % 2 ^ 64 * d), x]) (wd_hi e1)) rfl rfl ?_
  refine run_end (z := false) fun K' hK' => hK' _ _ _ (hK _ _ _ ?_)
  clear hK' K' hK K
  refine vc_seq ?_
  refine vc_regD [(0, 2), (0, 7), (2, 7), (3, 7)] (by kernel_rfl) (by kernel_rfl) fun K hK => ?_
  refine runD_n (z := false) 2 (fun K' hK' => hK' _ _ _ _ ?_) (by decide)
  clear hK' K'
  refine runD_call (h34) rfl rfl rfl rfl ?_
  refine runD_call (l30) rfl rfl rfl rfl ?_
  refine runD_end (z := false) fun K' hK' => hK' _ _ _ _ (hK _ _ _ ?_)
  clear hK' K' hK K
  refine vc_seq ?_
  refine vc_reg (by kernel_rfl) fun K hK => ?_
  refine run_n (z := false) 3 (fun K' hK' => hK' _ _ _ ?_) (by decide)
  clear hK' K'
  refine vgo_known 118 (b := true) (rfl) ?_
  refine run_n (z := false) 4 (fun K' hK' => hK' _ _ _ ?_) (by decide)
  clear hK' K'
  refine vgo_known 122 (b := true) (rfl) ?_
  refine run_end (z := false) fun K' hK' => hK' _ _ _ (hK _ _ _ ?_)
  clear hK' K' hK K
  refine vc_ret ⟨.inr rfl, ?_⟩
  exact Eq.trans (b := some (.bool _)) rfl (congrArg (fun b => some (Value.bool b)) (wd_same' a))
theorem p10 {a b d : Nat} (ha : a < 2 ^ 128) (hb : b < 2 ^ 128) (hd : d < 2 ^ 64) : Pure 10 [wd a, wd b, u64 d] (.bool true) := by
  by_cases hs : a + b < 2 ^ 128
  · rcases Nat.eq_zero_or_pos d with hz | hz
    · exact p10AZ ha hb hd hs hz
    · exact p10AP ha hb hd hs hz
  · rcases Nat.eq_zero_or_pos d with hz | hz
    · exact p10BZ ha hb hd hs hz
    · exact p10BP ha hb hd hs hz

end Go.Proofs.Ytdfkcijholopoaa.Vm
