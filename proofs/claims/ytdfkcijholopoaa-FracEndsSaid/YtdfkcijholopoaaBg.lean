/- WideDivs: quotients, and products over a number. -/
import Derived.Test.YtdfkcijholopoaaBf
namespace Go.Proofs.Ytdfkcijholopoaa.Vm
open Go Go.RowKit
set_option maxRecDepth 10000
set_option linter.unusedSimpArgs false
set_option linter.unusedVariables false

theorem vgo_known {ops : Array Oper} {base i : Nat} {l : List Oper} {t : Nat → Value} {h : Nat → Option Blk} {n : Nat} {K : St → Prop} (d : Nat) {b : Bool} (hd : t d = .bool b) (k : vgo ops base i l ⟨upd t d (.bool b), h, n⟩ K) : vgo ops base i l ⟨t, h, n⟩ K := by
  rwa [upd_eta t hd] at k
theorem W_known {ops : Array Oper} {U : List (Nat × Nat)} {base i : Nat} {l : List Oper} {log : Log} {t : Nat → Value} {h : Nat → Option Blk} {n : Nat} {K : St → Prop} (d : Nat) {b : Bool} (hd : t d = .bool b) (k : W ops U base i l log (upd t d (.bool b)) h n K) : W ops U base i l log t h n K := by
  rwa [upd_eta t hd] at k
theorem wd_beq (a b : Nat) : ((((a / 2 ^ 64 : Nat) : Int) == ((b / 2 ^ 64 : Nat) : Int)) && (((a % 2 ^ 64 : Nat) : Int) == ((b % 2 ^ 64 : Nat) : Int))) = decide (a = b) := by
  rw [Bool.eq_iff_iff]
  simp only [Bool.and_eq_true, beq_iff_eq, decide_eq_true_eq]
  omega
theorem wd_ne (a : Nat) : (!((((a / 2 ^ 64 : Nat) : Int) == ((a / 2 ^ 64 : Nat) : Int)) && (((a % 2 ^ 64 : Nat) : Int) == ((a % 2 ^ 64 : Nat) : Int)))) = false := by
  rw [wd_beq, decide_eq_true rfl]; rfl
theorem wd_eq (a : Nat) : ((((a / 2 ^ 64 : Nat) : Int) == ((a / 2 ^ 64 : Nat) : Int)) && (((a % 2 ^ 64 : Nat) : Int) == ((a % 2 ^ 64 : Nat) : Int))) = true := by
  rw [wd_beq, decide_eq_true rfl]
theorem p26w {v : Nat} (hv : v < 2 ^ 128) : Pure 26 [b8 v] (.tuple #[wd v, .bool true]) := by
  have h := p26 (v := v) (Nat.lt_trans hv (by decide))
  rw [Nat.mod_eq_of_lt hv, decide_eq_true hv] at h
  exact h
theorem p27y {a m d : Nat} (up : Bool) (ha : a < 2 ^ 128) (hm : m < 2 ^ 64) (hd0 : 0 < d) (hd : d < 2 ^ 64) (h : sc a m d up < 2 ^ 128) : Pure 27 [wd a, u64 m, u64 d, .bool up] (.tuple #[wd (sc a m d up), .bool true]) := by
  have h27 := p27 up ha hm hd0 hd
  rw [numR, Nat.mod_eq_of_lt h, decide_eq_true h] at h27
  exact h27
theorem p27n {a m d : Nat} (up : Bool) (ha : a < 2 ^ 128) (hm : m < 2 ^ 64) (hd0 : 0 < d) (hd : d < 2 ^ 64) (h : ¬ sc a m d up < 2 ^ 128) : Pure 27 [wd a, u64 m, u64 d, .bool up] (.tuple #[wd (sc a m d up % 2 ^ 128), .bool false]) := by
  have h27 := p27 up ha hm hd0 hd
  rw [numR, decide_eq_false h] at h27
  exact h27
theorem fin_b {b : Bool} (h : b = true) : some (Value.bool b) = some (.bool true) := by rw [h]


theorem p3z {a m : Nat} (ha : a < 2 ^ 128) (hm : m < 2 ^ 64) : Pure 3 [wd a, u64 m, u64 0] (.bool true) := by
  have h22 := p22 (d := 0) ha (by decide)
  have h23 := p23 (d := 0) ha hm (by decide)
  rw [div3_zero rfl] at h22
  rw [scR_zero rfl] at h23
  refine pure_of Try.func3 rfl Try.ntmps3 (by kernel_rfl) rfl (by simp) rfl ?_
  refine vc_seq ?_
  refine vc_go (by kernel_rfl) fun K hK => hK _ _ _ ?_
  clear hK K
  refine vc_seq ?_
  refine vc_seq ?_
  refine vc_reg (by kernel_rfl) fun K hK => ?_
  refine run_call (p21) rfl rfl rfl rfl ?_
  refine run_end (z := false) fun K' hK' => hK' _ _ _ (hK _ _ _ ?_)
  clear hK' K' hK K
  refine vc_cond (t := false) rfl (fun h => by cases h) (fun _ => ?_)
  refine vc_skip ?_
  refine vc_seq ?_
  refine vc_reg (by kernel_rfl) fun K hK => ?_
  refine run_n (z := false) 2 (fun K' hK' => hK' _ _ _ ?_) (by decide)
  clear hK' K'
  refine run_call (h22) rfl rfl rfl rfl ?_
  refine run_end (z := false) fun K' hK' => hK' _ _ _ (hK _ _ _ ?_)
  clear hK' K' hK K
  refine vc_seq ?_
  refine vc_reg (by kernel_rfl) fun K hK => ?_
  refine run_n (z := false) 3 (fun K' hK' => hK' _ _ _ ?_) (by decide)
  clear hK' K'
  refine run_call (h23) rfl rfl rfl rfl ?_
  refine run_end (z := false) fun K' hK' => hK' _ _ _ (hK _ _ _ ?_)
  clear hK' K' hK K
  refine vc_seq ?_
  refine vc_seq ?_
  refine vc_go (by kernel_rfl) fun K hK => hK _ _ _ ?_
  clear hK K
  refine vc_cond (t := true) rfl (fun _ => ?_) (fun h => by cases h)
  refine vc_seq ?_
  refine vc_go (by kernel_rfl) fun K hK => hK _ _ _ ?_
  clear hK K
  exact vc_ret ⟨.inr rfl, rfl⟩

theorem p3y {a m d : Nat} (ha : a < 2 ^ 128) (hm : m < 2 ^ 64) (hd0 : 0 < d) (hd : d < 2 ^ 64) (hx : sc a m d true < 2 ^ 128) : Pure 3 [wd a, u64 m, u64 d] (.bool true) := by
  have hq : a / d < 2 ^ 128 := Nat.lt_of_le_of_lt (Nat.div_le_self _ _) ha
  have hr : a % d < 2 ^ 64 := Nat.lt_trans (Nat.mod_lt _ hd0) hd
  have h22 := p22 (d := d) ha hd
  have h23 := p23 (d := d) ha hm hd
  have h27 := p27y true ha hm hd0 hd hx
  rw [div3_pos hd0] at h22
  rw [scR_ok hd0 hx] at h23
  have hz : (((d : Nat) : Int) == 0) = false := by rw [beq_eq_false_iff_ne]; omega
  have hrr : ((((a % d : Nat) : Int)) != ((a % d % 2 ^ 64 : Nat) : Int)) = false := by rw [Nat.mod_eq_of_lt hr, bne_eq_false_iff_eq]
  refine pure_of Try.func3 rfl Try.ntmps3 (by kernel_rfl) rfl (by simp) rfl ?_
  refine vc_seq ?_
  refine vc_go (by kernel_rfl) fun K hK => hK _ _ _ ?_
  clear hK K
  refine vc_seq ?_
  refine vc_seq ?_
  refine vc_reg (by kernel_rfl) fun K hK => ?_
  refine run_call (p21) rfl rfl rfl rfl ?_
  refine run_end (z := false) fun K' hK' => hK' _ _ _ (hK _ _ _ ?_)
  clear hK' K' hK K
  refine vc_cond (t := false) rfl (fun h => by cases h) (fun _ => ?_)
  refine vc_skip ?_
  refine vc_seq ?_
  refine vc_reg (by kernel_rfl) fun K hK => ?_
  refine run_n (z := false) 2 (fun K' hK' => hK' _ _ _ ?_) (by decide)
  clear hK' K'
  refine run_call (h22) rfl rfl rfl rfl ?_
  refine run_end (z := false) fun K' hK' => hK' _ _ _ (hK _ _ _ ?_)
  clear hK' K' hK K
  refine vc_seq ?_
  refine vc_reg (by kernel_rfl) fun K hK => ?_
  refine run_n (z := false) 3 (fun K' hK' => hK' _ _ _ ?_) (by decide)
  clear hK' K'
  refine run_call (h23) rfl rfl rfl rfl ?_
  refine run_end (z := false) fun K' hK' => hK' _ _ _ (hK _ _ _ ?_)
  clear hK' K' hK K
  refine vc_seq ?_
  refine vc_seq ?_
  refine vc_go (by kernel_rfl) fun K hK => hK _ _ _ ?_
  clear hK K
  refine vc_cond (t := false) (bb hz) (fun h => by cases h) (fun _ => ?_)
  refine vc_skip ?_
  refine vc_seq ?_
  refine vc_reg (by kernel_rfl) fun K hK => ?_
  refine run_n (z := false) 1 (fun K' hK' => hK' _ _ _ ?_) (by decide)
  clear hK' K'
  refine run_call (p25 ha) rfl rfl rfl rfl ?_
  refine run_n (z := false) 2 (fun K' hK' => hK' _ _ _ ?_) (by decide)
  clear hK' K'
  refine run_call (p25s hd) rfl rfl rfl rfl ?_
  refine run_call (p24 (Nat.lt_trans ha (by decide)) hd0 (Nat.lt_trans hd (by decide))) rfl rfl rfl rfl ?_
  refine run_n (z := false) 5 (fun K' hK' => hK' _ _ _ ?_) (by decide)
  clear hK' K'
  refine run_set (vex_st32 rfl rfl bits0_length rfl) rfl (by decide) rfl ?_
  refine run_set (vex_st32 rfl rfl bits0_length rfl) rfl (by decide) rfl ?_
  refine run_end (z := false) fun K' hK' => hK' _ _ _ (hK _ _ _ ?_)
  clear hK' K' hK K
  refine vc_seq ?_
  refine vc_reg (by kernel_rfl) fun K hK => ?_
  refine run_rd (vex_ld32 rfl rfl) rfl ?_
  refine run_call (p26w hq) rfl rfl rfl rfl ?_
  refine run_end (z := false) fun K' hK' => hK' _ _ _ (hK _ _ _ ?_)
  clear hK' K' hK K
  refine vc_seq ?_
  refine vc_reg (by kernel_rfl) fun K hK => ?_
  refine run_rd (vex_ld32 rfl rfl) rfl ?_
  refine run_call (p26w (Nat.lt_trans hr (by decide))) rfl rfl rfl rfl ?_
  refine run_end (z := false) fun K' hK' => hK' _ _ _ (hK _ _ _ ?_)
  clear hK' K' hK K
  refine vc_seq ?_
  refine vc_seq ?_
  refine vc_reg (by kernel_rfl) fun K hK => ?_
  refine run_n (z := false) 8 (fun K' hK' => hK' _ _ _ ?_) (by decide)
  clear hK' K'
  refine vgo_known 84 (b := false) (bb (wd_ne (a / d))) ?_
  refine run_end (z := false) fun K' hK' => hK' _ _ _ (hK _ _ _ ?_)
  clear hK' K' hK K
  refine vc_cond (t := false) (bb hrr) (fun h => by cases h) (fun _ => ?_)
  refine vc_skip ?_
  refine vc_seq ?_
  refine vc_reg (by kernel_rfl) fun K hK => ?_
  refine run_n (z := false) 3 (fun K' hK' => hK' _ _ _ ?_) (by decide)
  clear hK' K'
  refine run_call (h27) rfl rfl rfl rfl ?_
  refine run_end (z := false) fun K' hK' => hK' _ _ _ (hK _ _ _ ?_)
  clear hK' K' hK K
  refine vc_seq ?_
  refine vc_seq ?_
  refine vc_go (by kernel_rfl) fun K hK => hK _ _ _ ?_
  clear hK K
  refine vc_cond (t := false) rfl (fun h => by cases h) (fun _ => ?_)
  refine vc_skip ?_
  refine vc_seq ?_
  refine vc_go (by kernel_rfl) fun K hK => hK _ _ _ ?_
  clear hK K
  refine vc_ret ⟨.inr rfl, ?_⟩
  exact Eq.trans (b := some (.bool _)) rfl (fin_b (wd_eq (sc a m d true)))

theorem p3n {a m d : Nat} (ha : a < 2 ^ 128) (hm : m < 2 ^ 64) (hd0 : 0 < d) (hd : d < 2 ^ 64) (hx : ¬ sc a m d true < 2 ^ 128) : Pure 3 [wd a, u64 m, u64 d] (.bool true) := by
  have hq : a / d < 2 ^ 128 := Nat.lt_of_le_of_lt (Nat.div_le_self _ _) ha
  have hr : a % d < 2 ^ 64 := Nat.lt_trans (Nat.mod_lt _ hd0) hd
  have h22 := p22 (d := d) ha hd
  have h23 := p23 (d := d) ha hm hd
  have h27 := p27n true ha hm hd0 hd hx
  rw [div3_pos hd0] at h22
  rw [scR_bad hd0 hx] at h23
  have hz : (((d : Nat) : Int) == 0) = false := by rw [beq_eq_false_iff_ne]; omega
  have hrr : ((((a % d : Nat) : Int)) != ((a % d % 2 ^ 64 : Nat) : Int)) = false := by rw [Nat.mod_eq_of_lt hr, bne_eq_false_iff_eq]
  refine pure_of Try.func3 rfl Try.ntmps3 (by kernel_rfl) rfl (by simp) rfl ?_
  refine vc_seq ?_
  refine vc_go (by kernel_rfl) fun K hK => hK _ _ _ ?_
  clear hK K
  refine vc_seq ?_
  refine vc_seq ?_
  refine vc_reg (by kernel_rfl) fun K hK => ?_
  refine run_call (p21) rfl rfl rfl rfl ?_
  refine run_end (z := false) fun K' hK' => hK' _ _ _ (hK _ _ _ ?_)
  clear hK' K' hK K
  refine vc_cond (t := false) rfl (fun h => by cases h) (fun _ => ?_)
  refine vc_skip ?_
  refine vc_seq ?_
  refine vc_reg (by kernel_rfl) fun K hK => ?_
  refine run_n (z := false) 2 (fun K' hK' => hK' _ _ _ ?_) (by decide)
  clear hK' K'
  refine run_call (h22) rfl rfl rfl rfl ?_
  refine run_end (z := false) fun K' hK' => hK' _ _ _ (hK _ _ _ ?_)
  clear hK' K' hK K
  refine vc_seq ?_
  refine vc_reg (by kernel_rfl) fun K hK => ?_
  refine run_n (z := false) 3 (fun K' hK' => hK' _ _ _ ?_) (by decide)
  clear hK' K'
  refine run_call (h23) rfl rfl rfl rfl ?_
  refine run_end (z := false) fun K' hK' => hK' _ _ _ (hK _ _ _ ?_)
  clear hK' K' hK K
  refine vc_seq ?_
  refine vc_seq ?_
  refine vc_go (by kernel_rfl) fun K hK => hK _ _ _ ?_
  clear hK K
  refine vc_cond (t := false) (bb hz) (fun h => by cases h) (fun _ => ?_)
  refine vc_skip ?_
  refine vc_seq ?_
  refine vc_reg (by kernel_rfl) fun K hK => ?_
  refine run_n (z := false) 1 (fun K' hK' => hK' _ _ _ ?_) (by decide)
  clear hK' K'
  refine run_call (p25 ha) rfl rfl rfl rfl ?_
  refine run_n (z := false) 2 (fun K' hK' => hK' _ _ _ ?_) (by decide)
  clear hK' K'
  refine run_call (p25s hd) rfl rfl rfl rfl ?_
  refine run_call (p24 (Nat.lt_trans ha (by decide)) hd0 (Nat.lt_trans hd (by decide))) rfl rfl rfl rfl ?_
  refine run_n (z := false) 5 (fun K' hK' => hK' _ _ _ ?_) (by decide)
  clear hK' K'
  refine run_set (vex_st32 rfl rfl bits0_length rfl) rfl (by decide) rfl ?_
  refine run_set (vex_st32 rfl rfl bits0_length rfl) rfl (by decide) rfl ?_
  refine run_end (z := false) fun K' hK' => hK' _ _ _ (hK _ _ _ ?_)
  clear hK' K' hK K
  refine vc_seq ?_
  refine vc_reg (by kernel_rfl) fun K hK => ?_
  refine run_rd (vex_ld32 rfl rfl) rfl ?_
  refine run_call (p26w hq) rfl rfl rfl rfl ?_
  refine run_end (z := false) fun K' hK' => hK' _ _ _ (hK _ _ _ ?_)
  clear hK' K' hK K
  refine vc_seq ?_
  refine vc_reg (by kernel_rfl) fun K hK => ?_
  refine run_rd (vex_ld32 rfl rfl) rfl ?_
  refine run_call (p26w (Nat.lt_trans hr (by decide))) rfl rfl rfl rfl ?_
  refine run_end (z := false) fun K' hK' => hK' _ _ _ (hK _ _ _ ?_)
  clear hK' K' hK K
  refine vc_seq ?_
  refine vc_seq ?_
  refine vc_reg (by kernel_rfl) fun K hK => ?_
  refine run_n (z := false) 8 (fun K' hK' => hK' _ _ _ ?_) (by decide)
  clear hK' K'
  refine vgo_known 84 (b := false) (bb (wd_ne (a / d))) ?_
  refine run_end (z := false) fun K' hK' => hK' _ _ _ (hK _ _ _ ?_)
  clear hK' K' hK K
  refine vc_cond (t := false) (bb hrr) (fun h => by cases h) (fun _ => ?_)
  refine vc_skip ?_
  refine vc_seq ?_
  refine vc_reg (by kernel_rfl) fun K hK => ?_
  refine run_n (z := false) 3 (fun K' hK' => hK' _ _ _ ?_) (by decide)
  clear hK' K'
  refine run_call (h27) rfl rfl rfl rfl ?_
  refine run_end (z := false) fun K' hK' => hK' _ _ _ (hK _ _ _ ?_)
  clear hK' K' hK K
  refine vc_seq ?_
  refine vc_seq ?_
  refine vc_go (by kernel_rfl) fun K hK => hK _ _ _ ?_
  clear hK K
  refine vc_cond (t := true) rfl (fun _ => ?_) (fun h => by cases h)
  refine vc_seq ?_
  refine vc_go (by kernel_rfl) fun K hK => hK _ _ _ ?_
  clear hK K
  exact vc_ret ⟨.inr rfl, rfl⟩

theorem p3 {a m d : Nat} (ha : a < 2 ^ 128) (hm : m < 2 ^ 64) (hd : d < 2 ^ 64) : Pure 3 [wd a, u64 m, u64 d] (.bool true) := by
  rcases Nat.eq_zero_or_pos d with rfl | hd0
  · exact p3z ha hm
  · by_cases hx : sc a m d true < 2 ^ 128
    · exact p3y ha hm hd0 hd hx
    · exact p3n ha hm hd0 hd hx

end Go.Proofs.Ytdfkcijholopoaa.Vm
