/- WideScales: products over a number, there and back. -/
import Derived.Test.YtdfkcijholopoaaBg
namespace Go.Proofs.Ytdfkcijholopoaa.Vm
open Go Go.RowKit
set_option maxRecDepth 10000
set_option linter.unusedSimpArgs false
set_option linter.unusedVariables false

theorem sc_self {a m : Nat} (hm : 0 < m) : sc a m m true = a := by
  rw [sc, Nat.mul_div_cancel _ hm, Nat.mul_mod_left, if_neg (fun h => Nat.lt_irrefl 0 h.2), Nat.add_zero]
theorem sc_le {a m d : Nat} (hd : 0 < d) (h : m ≤ d) : sc a m d true ≤ a := by
  have h1 : a * m ≤ a * d := Nat.mul_le_mul_left a h
  have h2 := Nat.div_add_mod (a * m) d
  unfold sc
  split
  · rename_i hr
    have h3 : a * m / d < a := by
      rw [Nat.div_lt_iff_lt_mul hd]
      rcases Nat.lt_or_eq_of_le h1 with h4 | h4
      · exact h4
      · rw [h4, Nat.mul_mod_left] at hr
        exact absurd hr.2 (Nat.lt_irrefl 0)
    omega
  · have h3 : a * m / d ≤ a * d / d := Nat.div_le_div_right h1
    rw [Nat.mul_div_cancel _ hd] at h3
    omega
theorem sc_ge {a m d : Nat} (hd : 0 < d) : a * m ≤ sc a m d true * d := by
  have h2 := Nat.div_add_mod (a * m) d
  have h3 := Nat.mod_lt (a * m) hd
  rw [Nat.mul_comm d] at h2
  unfold sc
  rw [Nat.add_mul]
  generalize a * m / d * d = q at *
  split
  · omega
  · rename_i hr
    have : ¬ 0 < a * m % d := fun h => hr ⟨rfl, h⟩
    omega
theorem sc_back {a m d : Nat} (hm : 0 < m) (hd : 0 < d) : a ≤ sc (sc a m d true) d m true := by
  have h1 := sc_ge (a := a) (m := m) (d := d) hd
  have h2 : a * m / m ≤ sc a m d true * d / m := Nat.div_le_div_right h1
  rw [Nat.mul_div_cancel _ hm] at h2
  exact Nat.le_trans h2 (Nat.le_add_right _ _)
theorem sc_up (a m d : Nat) : sc a m d true = sc a m d false ∨ sc a m d true = sc a m d false + 1 := by
  have e : sc a m d false = a * m / d := by rw [sc, if_neg (fun h => by cases h.1), Nat.add_zero]
  rw [e]
  unfold sc
  split
  · exact .inr rfl
  · exact .inl rfl
theorem sc_nil (a d : Nat) (up : Bool) : sc a 0 d up = 0 := by
  rw [sc, Nat.mul_zero, Nat.zero_div, Nat.zero_mod, if_neg (fun h => Nat.lt_irrefl 0 h.2)]
theorem cmpW_nlt {a b : Nat} (h : b ≤ a) : decide (cmpW a b < 0) = false := by
  rw [decide_eq_false_iff_not, cmpW_lt]; omega
theorem pos_dec {m : Nat} (h : 0 < m) : decide (((m : Nat) : Int) > 0) = true := by rw [decide_eq_true_eq]; omega


theorem p8a {a : Nat} (ha : a < 2 ^ 128) : Pure 8 [wd a, u64 0, u64 0] (.bool true) := by
  have h2 := p23 (m := 0) (d := 0) ha (by decide) (by decide)
  rw [scR_zero rfl] at h2
  refine pure_of Try.func8 rfl Try.ntmps8 (by kernel_rfl) rfl (by simp) rfl ?_
  refine vc_seq ?_
  refine vc_go (by kernel_rfl) fun K hK => hK _ _ _ ?_
  clear hK K
  refine vc_seq ?_
  refine vc_seq ?_
  refine vc_reg (by kernel_rfl) fun K hK => ?_
  refine run_call (p21) rfl rfl rfl rfl ?_
  refine run_end (z := false) fun K' hK' => hK' _ _ _ (hK _ _ _ ?_)
  clear hK' K' hK K
  refine vc_cond (t := false) rfl (fun h => by cases h) (fun _ => ?_)
  refine vc_skip ?_
  refine vc_seq ?_
  refine vc_seq ?_
  refine vc_go (by kernel_rfl) fun K hK => hK _ _ _ ?_
  clear hK K
  refine vc_cond (t := false) rfl (fun h => by cases h) (fun _ => ?_)
  refine vc_skip ?_
  refine vc_seq ?_
  refine vc_reg (by kernel_rfl) fun K hK => ?_
  refine run_n (z := false) 3 (fun K' hK' => hK' _ _ _ ?_) (by decide)
  clear hK' K'
  refine run_call (h2) rfl rfl rfl rfl ?_
  refine run_end (z := false) fun K' hK' => hK' _ _ _ (hK _ _ _ ?_)
  clear hK' K' hK K
  refine vc_seq ?_
  refine vc_seq ?_
  refine vc_go (by kernel_rfl) fun K hK => hK _ _ _ ?_
  clear hK K
  refine vc_cond (t := true) rfl (fun _ => ?_) (fun h => by cases h)
  refine vc_seq ?_
  refine vc_go (by kernel_rfl) fun K hK => hK _ _ _ ?_
  clear hK K
  exact vc_ret ⟨.inr rfl, rfl⟩

theorem p8b {a m : Nat} (ha : a < 2 ^ 128) (hm : m < 2 ^ 64) (h0 : 0 < m) : Pure 8 [wd a, u64 m, u64 0] (.bool true) := by
  have h1 := p23 (m := m) (d := m) ha hm hm
  rw [scR_ok h0 (by rw [sc_self h0]; exact ha), sc_self h0] at h1
  have h2 := p23 (m := m) (d := 0) ha hm (by decide)
  rw [scR_zero rfl] at h2
  refine pure_of Try.func8 rfl Try.ntmps8 (by kernel_rfl) rfl (by simp) rfl ?_
  refine vc_seq ?_
  refine vc_go (by kernel_rfl) fun K hK => hK _ _ _ ?_
  clear hK K
  refine vc_seq ?_
  refine vc_seq ?_
  refine vc_reg (by kernel_rfl) fun K hK => ?_
  refine run_call (p21) rfl rfl rfl rfl ?_
  refine run_end (z := false) fun K' hK' => hK' _ _ _ (hK _ _ _ ?_)
  clear hK' K' hK K
  refine vc_cond (t := false) rfl (fun h => by cases h) (fun _ => ?_)
  refine vc_skip ?_
  refine vc_seq ?_
  refine vc_seq ?_
  refine vc_go (by kernel_rfl) fun K hK => hK _ _ _ ?_
  clear hK K
  refine vc_cond (t := true) (bb (pos_dec h0)) (fun _ => ?_) (fun h => by cases h)
  refine vc_seq ?_
  refine vc_reg (by kernel_rfl) fun K hK => ?_
  refine run_n (z := false) 3 (fun K' hK' => hK' _ _ _ ?_) (by decide)
  clear hK' K'
  refine run_call (h1) rfl rfl rfl rfl ?_
  refine run_end (z := false) fun K' hK' => hK' _ _ _ (hK _ _ _ ?_)
  clear hK' K' hK K
  refine vc_seq ?_
  refine vc_go (by kernel_rfl) fun K hK => hK _ _ _ ?_
  clear hK K
  refine vc_cond (t := false) (bb (wd_ne a)) (fun h => by cases h) (fun _ => ?_)
  refine vc_skip ?_
  refine vc_seq ?_
  refine vc_reg (by kernel_rfl) fun K hK => ?_
  refine run_n (z := false) 3 (fun K' hK' => hK' _ _ _ ?_) (by decide)
  clear hK' K'
  refine run_call (h2) rfl rfl rfl rfl ?_
  refine run_end (z := false) fun K' hK' => hK' _ _ _ (hK _ _ _ ?_)
  clear hK' K' hK K
  refine vc_seq ?_
  refine vc_seq ?_
  refine vc_go (by kernel_rfl) fun K hK => hK _ _ _ ?_
  clear hK K
  refine vc_cond (t := true) rfl (fun _ => ?_) (fun h => by cases h)
  refine vc_seq ?_
  refine vc_go (by kernel_rfl) fun K hK => hK _ _ _ ?_
  clear hK K
  exact vc_ret ⟨.inr rfl, rfl⟩

theorem p8c {a m d : Nat} (ha : a < 2 ^ 128) (hm : m < 2 ^ 64) (h0 : 0 < m) (hd0 : 0 < d) (hd : d < 2 ^ 64) (hx : ¬ sc a m d true < 2 ^ 128) : Pure 8 [wd a, u64 m, u64 d] (.bool true) := by
  have h1 := p23 (m := m) (d := m) ha hm hm
  rw [scR_ok h0 (by rw [sc_self h0]; exact ha), sc_self h0] at h1
  have h2 := p23 (m := m) (d := d) ha hm hd
  rw [scR_bad hd0 hx] at h2
  have hz : (((d : Nat) : Int) == 0) = false := by rw [beq_eq_false_iff_ne]; omega
  have hmd : decide (((m : Nat) : Int) > ((d : Nat) : Int)) = true := by
    rw [decide_eq_true_eq]
    have : ¬ m ≤ d := fun h => hx (Nat.lt_of_le_of_lt (sc_le hd0 h) ha)
    omega
  refine pure_of Try.func8 rfl Try.ntmps8 (by kernel_rfl) rfl (by simp) rfl ?_
  refine vc_seq ?_
  refine vc_go (by kernel_rfl) fun K hK => hK _ _ _ ?_
  clear hK K
  refine vc_seq ?_
  refine vc_seq ?_
  refine vc_reg (by kernel_rfl) fun K hK => ?_
  refine run_call (p21) rfl rfl rfl rfl ?_
  refine run_end (z := false) fun K' hK' => hK' _ _ _ (hK _ _ _ ?_)
  clear hK' K' hK K
  refine vc_cond (t := false) rfl (fun h => by cases h) (fun _ => ?_)
  refine vc_skip ?_
  refine vc_seq ?_
  refine vc_seq ?_
  refine vc_go (by kernel_rfl) fun K hK => hK _ _ _ ?_
  clear hK K
  refine vc_cond (t := true) (bb (pos_dec h0)) (fun _ => ?_) (fun h => by cases h)
  refine vc_seq ?_
  refine vc_reg (by kernel_rfl) fun K hK => ?_
  refine run_n (z := false) 3 (fun K' hK' => hK' _ _ _ ?_) (by decide)
  clear hK' K'
  refine run_call (h1) rfl rfl rfl rfl ?_
  refine run_end (z := false) fun K' hK' => hK' _ _ _ (hK _ _ _ ?_)
  clear hK' K' hK K
  refine vc_seq ?_
  refine vc_go (by kernel_rfl) fun K hK => hK _ _ _ ?_
  clear hK K
  refine vc_cond (t := false) (bb (wd_ne a)) (fun h => by cases h) (fun _ => ?_)
  refine vc_skip ?_
  refine vc_seq ?_
  refine vc_reg (by kernel_rfl) fun K hK => ?_
  refine run_n (z := false) 3 (fun K' hK' => hK' _ _ _ ?_) (by decide)
  clear hK' K'
  refine run_call (h2) rfl rfl rfl rfl ?_
  refine run_end (z := false) fun K' hK' => hK' _ _ _ (hK _ _ _ ?_)
  clear hK' K' hK K
  refine vc_seq ?_
  refine vc_seq ?_
  refine vc_go (by kernel_rfl) fun K hK => hK _ _ _ ?_
  clear hK K
  refine vc_cond (t := true) rfl (fun _ => ?_) (fun h => by cases h)
  refine vc_seq ?_
  refine vc_reg (by kernel_rfl) fun K hK => ?_
  refine run_n (z := false) 3 (fun K' hK' => hK' _ _ _ ?_) (by decide)
  clear hK' K'
  refine vgo_known 46 (b := false) (bb hz) ?_
  refine run_end (z := false) fun K' hK' => hK' _ _ _ (hK _ _ _ ?_)
  clear hK' K' hK K
  refine vc_ret ⟨.inr rfl, ?_⟩
  exact Eq.trans (b := some (.bool _)) rfl (fin_b hmd)

theorem p8d {a d : Nat} (ha : a < 2 ^ 128) (hd0 : 0 < d) (hd : d < 2 ^ 64) : Pure 8 [wd a, u64 0, u64 d] (.bool true) := by
  have h2 := p23 (m := 0) (d := d) ha (by decide) hd
  rw [scR_ok hd0 (by rw [sc_nil]; decide), sc_nil] at h2
  have la : a % 2 ^ 64 < 2 ^ 64 := Nat.mod_lt _ (by decide)
  have g1 := p28 (b := 0) (d := d) true la (by decide) hd
  have g2 := p28 (b := 0) (d := d) false la (by decide) hd
  rw [mdR_ok hd0 (by rw [sc_nil]; decide), sc_nil] at g1 g2
  refine pure_of Try.func8 rfl Try.ntmps8 (by kernel_rfl) rfl (by simp) rfl ?_
  refine vc_seq ?_
  refine vc_go (by kernel_rfl) fun K hK => hK _ _ _ ?_
  clear hK K
  refine vc_seq ?_
  refine vc_seq ?_
  refine vc_reg (by kernel_rfl) fun K hK => ?_
  refine run_call (p21) rfl rfl rfl rfl ?_
  refine run_end (z := false) fun K' hK' => hK' _ _ _ (hK _ _ _ ?_)
  clear hK' K' hK K
  refine vc_cond (t := false) rfl (fun h => by cases h) (fun _ => ?_)
  refine vc_skip ?_
  refine vc_seq ?_
  refine vc_seq ?_
  refine vc_go (by kernel_rfl) fun K hK => hK _ _ _ ?_
  clear hK K
  refine vc_cond (t := false) rfl (fun h => by cases h) (fun _ => ?_)
  refine vc_skip ?_
  refine vc_seq ?_
  refine vc_reg (by kernel_rfl) fun K hK => ?_
  refine run_n (z := false) 3 (fun K' hK' => hK' _ _ _ ?_) (by decide)
  clear hK' K'
  refine run_call (h2) rfl rfl rfl rfl ?_
  refine run_end (z := false) fun K' hK' => hK' _ _ _ (hK _ _ _ ?_)
  clear hK' K' hK K
  refine vc_seq ?_
  refine vc_seq ?_
  refine vc_go (by kernel_rfl) fun K hK => hK _ _ _ ?_
  clear hK K
  refine vc_cond (t := false) rfl (fun h => by cases h) (fun _ => ?_)
  refine vc_skip ?_
  refine vc_seq ?_
  refine vc_seq ?_
  refine vc_go (by kernel_rfl) fun K hK => hK _ _ _ ?_
  clear hK K
  refine vc_cond (t := false) rfl (fun h => by cases h) (fun _ => ?_)
  refine vc_skip ?_
  refine vc_seq ?_
  refine vc_reg (by kernel_rfl) fun K hK => ?_
  refine run_n (z := false) 4 (fun K' hK' => hK' _ _ _ ?_) (by decide)
  clear hK' K'
  refine run_call (g1) rfl rfl rfl rfl ?_
  refine run_end (z := false) fun K' hK' => hK' _ _ _ (hK _ _ _ ?_)
  clear hK' K' hK K
  refine vc_seq ?_
  refine vc_reg (by kernel_rfl) fun K hK => ?_
  refine run_n (z := false) 4 (fun K' hK' => hK' _ _ _ ?_) (by decide)
  clear hK' K'
  refine run_call (g2) rfl rfl rfl rfl ?_
  refine run_end (z := false) fun K' hK' => hK' _ _ _ (hK _ _ _ ?_)
  clear hK' K' hK K
  refine vc_seq ?_
  refine vc_seq ?_
  refine vc_go (by kernel_rfl) fun K hK => hK _ _ _ ?_
  clear hK K
  refine vc_cond (t := false) rfl (fun h => by cases h) (fun _ => ?_)
  refine vc_skip ?_
  refine vc_seq ?_
  refine vc_go (by kernel_rfl) fun K hK => hK _ _ _ ?_
  clear hK K
  exact vc_ret ⟨.inr rfl, rfl⟩

theorem p8YB {a m d : Nat} (ha : a < 2 ^ 128) (hm : m < 2 ^ 64) (h0 : 0 < m) (hd0 : 0 < d) (hd : d < 2 ^ 64) (hx : sc a m d true < 2 ^ 128) (hy : sc (sc a m d true) d m true < 2 ^ 128) (hc : ¬ sc (a % 2 ^ 64) m d false < 2 ^ 64) : Pure 8 [wd a, u64 m, u64 d] (.bool true) := by
  have h1 := p23 (m := m) (d := m) ha hm hm
  rw [scR_ok h0 (by rw [sc_self h0]; exact ha), sc_self h0] at h1
  have h2 := p23 (m := m) (d := d) ha hm hd
  rw [scR_ok hd0 hx] at h2
  have h3 := p23 (m := d) (d := m) hx hd hm
  rw [scR_ok h0 hy] at h3
  have la : a % 2 ^ 64 < 2 ^ 64 := Nat.mod_lt _ (by decide)
  have hud := sc_up (a % 2 ^ 64) m d
  have g1 := p28 (b := m) (d := d) true la hm hd
  have g2 := p28 (b := m) (d := d) false la hm hd
  rw [mdR_bad hd0 (by omega)] at g1
  rw [mdR_bad hd0 (by omega)] at g2
  refine pure_of Try.func8 rfl Try.ntmps8 (by kernel_rfl) rfl (by simp) rfl ?_
  refine vc_seq ?_
  refine vc_go (by kernel_rfl) fun K hK => hK _ _ _ ?_
  clear hK K
  refine vc_seq ?_
  refine vc_seq ?_
  refine vc_reg (by kernel_rfl) fun K hK => ?_
  refine run_call (p21) rfl rfl rfl rfl ?_
  refine run_end (z := false) fun K' hK' => hK' _ _ _ (hK _ _ _ ?_)
  clear hK' K' hK K
  refine vc_cond (t := false) rfl (fun h => by cases h) (fun _ => ?_)
  refine vc_skip ?_
  refine vc_seq ?_
  refine vc_seq ?_
  refine vc_go (by kernel_rfl) fun K hK => hK _ _ _ ?_
  clear hK K
  refine vc_cond (t := true) (bb (pos_dec h0)) (fun _ => ?_) (fun h => by cases h)
  refine vc_seq ?_
  refine vc_reg (by kernel_rfl) fun K hK => ?_
  refine run_n (z := false) 3 (fun K' hK' => hK' _ _ _ ?_) (by decide)
  clear hK' K'
  refine run_call (h1) rfl rfl rfl rfl ?_
  refine run_end (z := false) fun K' hK' => hK' _ _ _ (hK _ _ _ ?_)
  clear hK' K' hK K
  refine vc_seq ?_
  refine vc_go (by kernel_rfl) fun K hK => hK _ _ _ ?_
  clear hK K
  refine vc_cond (t := false) (bb (wd_ne a)) (fun h => by cases h) (fun _ => ?_)
  refine vc_skip ?_
  refine vc_seq ?_
  refine vc_reg (by kernel_rfl) fun K hK => ?_
  refine run_n (z := false) 3 (fun K' hK' => hK' _ _ _ ?_) (by decide)
  clear hK' K'
  refine run_call (h2) rfl rfl rfl rfl ?_
  refine run_end (z := false) fun K' hK' => hK' _ _ _ (hK _ _ _ ?_)
  clear hK' K' hK K
  refine vc_seq ?_
  refine vc_seq ?_
  refine vc_go (by kernel_rfl) fun K hK => hK _ _ _ ?_
  clear hK K
  refine vc_cond (t := false) rfl (fun h => by cases h) (fun _ => ?_)
  refine vc_skip ?_
  refine vc_seq ?_
  refine vc_seq ?_
  refine vc_go (by kernel_rfl) fun K hK => hK _ _ _ ?_
  clear hK K
  refine vc_cond (t := true) (bb (pos_dec h0)) (fun _ => ?_) (fun h => by cases h)
  refine vc_seq ?_
  refine vc_reg (by kernel_rfl) fun K hK => ?_
  refine run_n (z := false) 3 (fun K' hK' => hK' _ _ _ ?_) (by decide)
  clear hK' K'
  refine run_call (h3) rfl rfl rfl rfl ?_
  refine run_end (z := false) fun K' hK' => hK' _ _ _ (hK _ _ _ ?_)
  clear hK' K' hK K
  refine vc_seq ?_
  refine vc_reg (by kernel_rfl) fun K hK => ?_
  refine run_n (z := false) 5 (fun K' hK' => hK' _ _ _ ?_) (by decide)
  clear hK' K'
  refine run_call (p29 _ _) rfl rfl rfl rfl ?_
  refine run_end (z := false) fun K' hK' => hK' _ _ _ (hK _ _ _ ?_)
  clear hK' K' hK K
  refine vc_cond (t := false) (bb (cmpW_nlt (sc_back h0 hd0))) (fun h => by cases h) (fun _ => ?_)
  refine vc_skip ?_
  refine vc_seq ?_
  refine vc_reg (by kernel_rfl) fun K hK => ?_
  refine run_n (z := false) 4 (fun K' hK' => hK' _ _ _ ?_) (by decide)
  clear hK' K'
  refine run_call (g1) rfl rfl rfl rfl ?_
  refine run_end (z := false) fun K' hK' => hK' _ _ _ (hK _ _ _ ?_)
  clear hK' K' hK K
  refine vc_seq ?_
  refine vc_reg (by kernel_rfl) fun K hK => ?_
  refine run_n (z := false) 4 (fun K' hK' => hK' _ _ _ ?_) (by decide)
  clear hK' K'
  refine run_call (g2) rfl rfl rfl rfl ?_
  refine run_end (z := false) fun K' hK' => hK' _ _ _ (hK _ _ _ ?_)
  clear hK' K' hK K
  refine vc_seq ?_
  refine vc_seq ?_
  refine vc_go (by kernel_rfl) fun K hK => hK _ _ _ ?_
  clear hK K
  refine vc_cond (t := true) rfl (fun _ => ?_) (fun h => by cases h)
  refine vc_seq ?_
  refine vc_go (by kernel_rfl) fun K hK => hK _ _ _ ?_
  clear hK K
  exact vc_ret ⟨.inr rfl, rfl⟩

theorem p8YT {a m d : Nat} (ha : a < 2 ^ 128) (hm : m < 2 ^ 64) (h0 : 0 < m) (hd0 : 0 < d) (hd : d < 2 ^ 64) (hx : sc a m d true < 2 ^ 128) (hy : sc (sc a m d true) d m true < 2 ^ 128) (hc : sc (a % 2 ^ 64) m d false < 2 ^ 64 ∧ ¬ sc (a % 2 ^ 64) m d true < 2 ^ 64) : Pure 8 [wd a, u64 m, u64 d] (.bool true) := by
  have h1 := p23 (m := m) (d := m) ha hm hm
  rw [scR_ok h0 (by rw [sc_self h0]; exact ha), sc_self h0] at h1
  have h2 := p23 (m := m) (d := d) ha hm hd
  rw [scR_ok hd0 hx] at h2
  have h3 := p23 (m := d) (d := m) hx hd hm
  rw [scR_ok h0 hy] at h3
  have la : a % 2 ^ 64 < 2 ^ 64 := Nat.mod_lt _ (by decide)
  have hud := sc_up (a % 2 ^ 64) m d
  have g1 := p28 (b := m) (d := d) true la hm hd
  have g2 := p28 (b := m) (d := d) false la hm hd
  rw [mdR_bad hd0 (by omega)] at g1
  rw [mdR_ok hd0 (by omega)] at g2
  have hD : (((sc (a % 2 ^ 64) m d false : Nat) : Int) == 18446744073709551615) = true := by rw [beq_iff_eq]; omega
  refine pure_of Try.func8 rfl Try.ntmps8 (by kernel_rfl) rfl (by simp) rfl ?_
  refine vc_seq ?_
  refine vc_go (by kernel_rfl) fun K hK => hK _ _ _ ?_
  clear hK K
  refine vc_seq ?_
  refine vc_seq ?_
  refine vc_reg (by kernel_rfl) fun K hK => ?_
  refine run_call (p21) rfl rfl rfl rfl ?_
  refine run_end (z := false) fun K' hK' => hK' _ _ _ (hK _ _ _ ?_)
  clear hK' K' hK K
  refine vc_cond (t := false) rfl (fun h => by cases h) (fun _ => ?_)
  refine vc_skip ?_
  refine vc_seq ?_
  refine vc_seq ?_
  refine vc_go (by kernel_rfl) fun K hK => hK _ _ _ ?_
  clear hK K
  refine vc_cond (t := true) (bb (pos_dec h0)) (fun _ => ?_) (fun h => by cases h)
  refine vc_seq ?_
  refine vc_reg (by kernel_rfl) fun K hK => ?_
  refine run_n (z := false) 3 (fun K' hK' => hK' _ _ _ ?_) (by decide)
  clear hK' K'
  refine run_call (h1) rfl rfl rfl rfl ?_
  refine run_end (z := false) fun K' hK' => hK' _ _ _ (hK _ _ _ ?_)
  clear hK' K' hK K
  refine vc_seq ?_
  refine vc_go (by kernel_rfl) fun K hK => hK _ _ _ ?_
  clear hK K
  refine vc_cond (t := false) (bb (wd_ne a)) (fun h => by cases h) (fun _ => ?_)
  refine vc_skip ?_
  refine vc_seq ?_
  refine vc_reg (by kernel_rfl) fun K hK => ?_
  refine run_n (z := false) 3 (fun K' hK' => hK' _ _ _ ?_) (by decide)
  clear hK' K'
  refine run_call (h2) rfl rfl rfl rfl ?_
  refine run_end (z := false) fun K' hK' => hK' _ _ _ (hK _ _ _ ?_)
  clear hK' K' hK K
  refine vc_seq ?_
  refine vc_seq ?_
  refine vc_go (by kernel_rfl) fun K hK => hK _ _ _ ?_
  clear hK K
  refine vc_cond (t := false) rfl (fun h => by cases h) (fun _ => ?_)
  refine vc_skip ?_
  refine vc_seq ?_
  refine vc_seq ?_
  refine vc_go (by kernel_rfl) fun K hK => hK _ _ _ ?_
  clear hK K
  refine vc_cond (t := true) (bb (pos_dec h0)) (fun _ => ?_) (fun h => by cases h)
  refine vc_seq ?_
  refine vc_reg (by kernel_rfl) fun K hK => ?_
  refine run_n (z := false) 3 (fun K' hK' => hK' _ _ _ ?_) (by decide)
  clear hK' K'
  refine run_call (h3) rfl rfl rfl rfl ?_
  refine run_end (z := false) fun K' hK' => hK' _ _ _ (hK _ _ _ ?_)
  clear hK' K' hK K
  refine vc_seq ?_
  refine vc_reg (by kernel_rfl) fun K hK => ?_
  refine run_n (z := false) 5 (fun K' hK' => hK' _ _ _ ?_) (by decide)
  clear hK' K'
  refine run_call (p29 _ _) rfl rfl rfl rfl ?_
  refine run_end (z := false) fun K' hK' => hK' _ _ _ (hK _ _ _ ?_)
  clear hK' K' hK K
  refine vc_cond (t := false) (bb (cmpW_nlt (sc_back h0 hd0))) (fun h => by cases h) (fun _ => ?_)
  refine vc_skip ?_
  refine vc_seq ?_
  refine vc_reg (by kernel_rfl) fun K hK => ?_
  refine run_n (z := false) 4 (fun K' hK' => hK' _ _ _ ?_) (by decide)
  clear hK' K'
  refine run_call (g1) rfl rfl rfl rfl ?_
  refine run_end (z := false) fun K' hK' => hK' _ _ _ (hK _ _ _ ?_)
  clear hK' K' hK K
  refine vc_seq ?_
  refine vc_reg (by kernel_rfl) fun K hK => ?_
  refine run_n (z := false) 4 (fun K' hK' => hK' _ _ _ ?_) (by decide)
  clear hK' K'
  refine run_call (g2) rfl rfl rfl rfl ?_
  refine run_end (z := false) fun K' hK' => hK' _ _ _ (hK _ _ _ ?_)
  clear hK' K' hK K
  refine vc_seq ?_
  refine vc_seq ?_
  refine vc_go (by kernel_rfl) fun K hK => hK _ _ _ ?_
  clear hK K
  refine vc_cond (t := false) rfl (fun h => by cases h) (fun _ => ?_)
  refine vc_skip ?_
  refine vc_seq ?_
  refine vc_reg (by kernel_rfl) fun K hK => ?_
  refine run_n (z := false) 7 (fun K' hK' => hK' _ _ _ ?_) (by decide)
  clear hK' K'
  refine vgo_known 94 (b := true) (bb hD) ?_
  refine run_end (z := false) fun K' hK' => hK' _ _ _ (hK _ _ _ ?_)
  clear hK' K' hK K
  exact vc_ret ⟨.inr rfl, rfl⟩

theorem p8YE {a m d : Nat} (ha : a < 2 ^ 128) (hm : m < 2 ^ 64) (h0 : 0 < m) (hd0 : 0 < d) (hd : d < 2 ^ 64) (hx : sc a m d true < 2 ^ 128) (hy : sc (sc a m d true) d m true < 2 ^ 128) (hc : sc (a % 2 ^ 64) m d true < 2 ^ 64 ∧ sc (a % 2 ^ 64) m d true = sc (a % 2 ^ 64) m d false) : Pure 8 [wd a, u64 m, u64 d] (.bool true) := by
  have h1 := p23 (m := m) (d := m) ha hm hm
  rw [scR_ok h0 (by rw [sc_self h0]; exact ha), sc_self h0] at h1
  have h2 := p23 (m := m) (d := d) ha hm hd
  rw [scR_ok hd0 hx] at h2
  have h3 := p23 (m := d) (d := m) hx hd hm
  rw [scR_ok h0 hy] at h3
  have la : a % 2 ^ 64 < 2 ^ 64 := Nat.mod_lt _ (by decide)
  have hud := sc_up (a % 2 ^ 64) m d
  have g1 := p28 (b := m) (d := d) true la hm hd
  have g2 := p28 (b := m) (d := d) false la hm hd
  rw [mdR_ok hd0 (by omega)] at g1
  rw [mdR_ok hd0 (by omega)] at g2
  have hE : (((sc (a % 2 ^ 64) m d true : Nat) : Int) == ((sc (a % 2 ^ 64) m d false : Nat) : Int)) = true := by rw [beq_iff_eq]; omega
  refine pure_of Try.func8 rfl Try.ntmps8 (by kernel_rfl) rfl (by simp) rfl ?_
  refine vc_seq ?_
  refine vc_go (by kernel_rfl) fun K hK => hK _ _ _ ?_
  clear hK K
  refine vc_seq ?_
  refine vc_seq ?_
  refine vc_reg (by kernel_rfl) fun K hK => ?_
  refine run_call (p21) rfl rfl rfl rfl ?_
  refine run_end (z := false) fun K' hK' => hK' _ _ _ (hK _ _ _ ?_)
  clear hK' K' hK K
  refine vc_cond (t := false) rfl (fun h => by cases h) (fun _ => ?_)
  refine vc_skip ?_
  refine vc_seq ?_
  refine vc_seq ?_
  refine vc_go (by kernel_rfl) fun K hK => hK _ _ _ ?_
  clear hK K
  refine vc_cond (t := true) (bb (pos_dec h0)) (fun _ => ?_) (fun h => by cases h)
  refine vc_seq ?_
  refine vc_reg (by kernel_rfl) fun K hK => ?_
  refine run_n (z := false) 3 (fun K' hK' => hK' _ _ _ ?_) (by decide)
  clear hK' K'
  refine run_call (h1) rfl rfl rfl rfl ?_
  refine run_end (z := false) fun K' hK' => hK' _ _ _ (hK _ _ _ ?_)
  clear hK' K' hK K
  refine vc_seq ?_
  refine vc_go (by kernel_rfl) fun K hK => hK _ _ _ ?_
  clear hK K
  refine vc_cond (t := false) (bb (wd_ne a)) (fun h => by cases h) (fun _ => ?_)
  refine vc_skip ?_
  refine vc_seq ?_
  refine vc_reg (by kernel_rfl) fun K hK => ?_
  refine run_n (z := false) 3 (fun K' hK' => hK' _ _ _ ?_) (by decide)
  clear hK' K'
  refine run_call (h2) rfl rfl rfl rfl ?_
  refine run_end (z := false) fun K' hK' => hK' _ _ _ (hK _ _ _ ?_)
  clear hK' K' hK K
  refine vc_seq ?_
  refine vc_seq ?_
  refine vc_go (by kernel_rfl) fun K hK => hK _ _ _ ?_
  clear hK K
  refine vc_cond (t := false) rfl (fun h => by cases h) (fun _ => ?_)
  refine vc_skip ?_
  refine vc_seq ?_
  refine vc_seq ?_
  refine vc_go (by kernel_rfl) fun K hK => hK _ _ _ ?_
  clear hK K
  refine vc_cond (t := true) (bb (pos_dec h0)) (fun _ => ?_) (fun h => by cases h)
  refine vc_seq ?_
  refine vc_reg (by kernel_rfl) fun K hK => ?_
  refine run_n (z := false) 3 (fun K' hK' => hK' _ _ _ ?_) (by decide)
  clear hK' K'
  refine run_call (h3) rfl rfl rfl rfl ?_
  refine run_end (z := false) fun K' hK' => hK' _ _ _ (hK _ _ _ ?_)
  clear hK' K' hK K
  refine vc_seq ?_
  refine vc_reg (by kernel_rfl) fun K hK => ?_
  refine run_n (z := false) 5 (fun K' hK' => hK' _ _ _ ?_) (by decide)
  clear hK' K'
  refine run_call (p29 _ _) rfl rfl rfl rfl ?_
  refine run_end (z := false) fun K' hK' => hK' _ _ _ (hK _ _ _ ?_)
  clear hK' K' hK K
  refine vc_cond (t := false) (bb (cmpW_nlt (sc_back h0 hd0))) (fun h => by cases h) (fun _ => ?_)
  refine vc_skip ?_
  refine vc_seq ?_
  refine vc_reg (by kernel_rfl) fun K hK => ?_
  refine run_n (z := false) 4 (fun K' hK' => hK' _ _ _ ?_) (by decide)
  clear hK' K'
  refine run_call (g1) rfl rfl rfl rfl ?_
  refine run_end (z := false) fun K' hK' => hK' _ _ _ (hK _ _ _ ?_)
  clear hK' K' hK K
  refine vc_seq ?_
  refine vc_reg (by kernel_rfl) fun K hK => ?_
  refine run_n (z := false) 4 (fun K' hK' => hK' _ _ _ ?_) (by decide)
  clear hK' K'
  refine run_call (g2) rfl rfl rfl rfl ?_
  refine run_end (z := false) fun K' hK' => hK' _ _ _ (hK _ _ _ ?_)
  clear hK' K' hK K
  refine vc_seq ?_
  refine vc_seq ?_
  refine vc_go (by kernel_rfl) fun K hK => hK _ _ _ ?_
  clear hK K
  refine vc_cond (t := false) rfl (fun h => by cases h) (fun _ => ?_)
  refine vc_skip ?_
  refine vc_seq ?_
  refine vc_reg (by kernel_rfl) fun K hK => ?_
  refine run_n (z := false) 14 (fun K' hK' => hK' _ _ _ ?_) (by decide)
  clear hK' K'
  refine vgo_known 101 (b := true) (bb hE) ?_
  refine run_end (z := false) fun K' hK' => hK' _ _ _ (hK _ _ _ ?_)
  clear hK' K' hK K
  exact vc_ret ⟨.inr rfl, rfl⟩

theorem p8YO {a m d : Nat} (ha : a < 2 ^ 128) (hm : m < 2 ^ 64) (h0 : 0 < m) (hd0 : 0 < d) (hd : d < 2 ^ 64) (hx : sc a m d true < 2 ^ 128) (hy : sc (sc a m d true) d m true < 2 ^ 128) (hc : sc (a % 2 ^ 64) m d true < 2 ^ 64 ∧ sc (a % 2 ^ 64) m d true = sc (a % 2 ^ 64) m d false + 1) : Pure 8 [wd a, u64 m, u64 d] (.bool true) := by
  have h1 := p23 (m := m) (d := m) ha hm hm
  rw [scR_ok h0 (by rw [sc_self h0]; exact ha), sc_self h0] at h1
  have h2 := p23 (m := m) (d := d) ha hm hd
  rw [scR_ok hd0 hx] at h2
  have h3 := p23 (m := d) (d := m) hx hd hm
  rw [scR_ok h0 hy] at h3
  have la : a % 2 ^ 64 < 2 ^ 64 := Nat.mod_lt _ (by decide)
  have hud := sc_up (a % 2 ^ 64) m d
  have g1 := p28 (b := m) (d := d) true la hm hd
  have g2 := p28 (b := m) (d := d) false la hm hd
  rw [mdR_ok hd0 (by omega)] at g1
  rw [mdR_ok hd0 (by omega)] at g2
  have hE : (((sc (a % 2 ^ 64) m d true : Nat) : Int) == ((sc (a % 2 ^ 64) m d false : Nat) : Int)) = false := by rw [beq_eq_false_iff_ne]; omega
  have hO : (((sc (a % 2 ^ 64) m d true : Nat) : Int) == IntKind.u64.wrap (((sc (a % 2 ^ 64) m d false : Nat) : Int) + 1)) = true := by rw [beq_iff_eq, wrap64]; omega
  refine pure_of Try.func8 rfl Try.ntmps8 (by kernel_rfl) rfl (by simp) rfl ?_
  refine vc_seq ?_
  refine vc_go (by kernel_rfl) fun K hK => hK _ _ _ ?_
  clear hK K
  refine vc_seq ?_
  refine vc_seq ?_
  refine vc_reg (by kernel_rfl) fun K hK => ?_
  refine run_call (p21) rfl rfl rfl rfl ?_
  refine run_end (z := false) fun K' hK' => hK' _ _ _ (hK _ _ _ ?_)
  clear hK' K' hK K
  refine vc_cond (t := false) rfl (fun h => by cases h) (fun _ => ?_)
  refine vc_skip ?_
  refine vc_seq ?_
  refine vc_seq ?_
  refine vc_go (by kernel_rfl) fun K hK => hK _ _ _ ?_
  clear hK K
  refine vc_cond (t := true) (bb (pos_dec h0)) (fun _ => ?_) (fun h => by cases h)
  refine vc_seq ?_
  refine vc_reg (by kernel_rfl) fun K hK => ?_
  refine run_n (z := false) 3 (fun K' hK' => hK' _ _ _ ?_) (by decide)
  clear hK' K'
  refine run_call (h1) rfl rfl rfl rfl ?_
  refine run_end (z := false) fun K' hK' => hK' _ _ _ (hK _ _ _ ?_)
  clear hK' K' hK K
  refine vc_seq ?_
  refine vc_go (by kernel_rfl) fun K hK => hK _ _ _ ?_
  clear hK K
  refine vc_cond (t := false) (bb (wd_ne a)) (fun h => by cases h) (fun _ => ?_)
  refine vc_skip ?_
  refine vc_seq ?_
  refine vc_reg (by kernel_rfl) fun K hK => ?_
  refine run_n (z := false) 3 (fun K' hK' => hK' _ _ _ ?_) (by decide)
  clear hK' K'
  refine run_call (h2) rfl rfl rfl rfl ?_
  refine run_end (z := false) fun K' hK' => hK' _ _ _ (hK _ _ _ ?_)
  clear hK' K' hK K
  refine vc_seq ?_
  refine vc_seq ?_
  refine vc_go (by kernel_rfl) fun K hK => hK _ _ _ ?_
  clear hK K
  refine vc_cond (t := false) rfl (fun h => by cases h) (fun _ => ?_)
  refine vc_skip ?_
  refine vc_seq ?_
  refine vc_seq ?_
  refine vc_go (by kernel_rfl) fun K hK => hK _ _ _ ?_
  clear hK K
  refine vc_cond (t := true) (bb (pos_dec h0)) (fun _ => ?_) (fun h => by cases h)
  refine vc_seq ?_
  refine vc_reg (by kernel_rfl) fun K hK => ?_
  refine run_n (z := false) 3 (fun K' hK' => hK' _ _ _ ?_) (by decide)
  clear hK' K'
  refine run_call (h3) rfl rfl rfl rfl ?_
  refine run_end (z := false) fun K' hK' => hK' _ _ _ (hK _ _ _ ?_)
  clear hK' K' hK K
  refine vc_seq ?_
  refine vc_reg (by kernel_rfl) fun K hK => ?_
  refine run_n (z := false) 5 (fun K' hK' => hK' _ _ _ ?_) (by decide)
  clear hK' K'
  refine run_call (p29 _ _) rfl rfl rfl rfl ?_
  refine run_end (z := false) fun K' hK' => hK' _ _ _ (hK _ _ _ ?_)
  clear hK' K' hK K
  refine vc_cond (t := false) (bb (cmpW_nlt (sc_back h0 hd0))) (fun h => by cases h) (fun _ => ?_)
  refine vc_skip ?_
  refine vc_seq ?_
  refine vc_reg (by kernel_rfl) fun K hK => ?_
  refine run_n (z := false) 4 (fun K' hK' => hK' _ _ _ ?_) (by decide)
  clear hK' K'
  refine run_call (g1) rfl rfl rfl rfl ?_
  refine run_end (z := false) fun K' hK' => hK' _ _ _ (hK _ _ _ ?_)
  clear hK' K' hK K
  refine vc_seq ?_
  refine vc_reg (by kernel_rfl) fun K hK => ?_
  refine run_n (z := false) 4 (fun K' hK' => hK' _ _ _ ?_) (by decide)
  clear hK' K'
  refine run_call (g2) rfl rfl rfl rfl ?_
  refine run_end (z := false) fun K' hK' => hK' _ _ _ (hK _ _ _ ?_)
  clear hK' K' hK K
  refine vc_seq ?_
  refine vc_seq ?_
  refine vc_go (by kernel_rfl) fun K hK => hK _ _ _ ?_
  clear hK K
  refine vc_cond (t := false) rfl (fun h => by cases h) (fun _ => ?_)
  refine vc_skip ?_
  refine vc_seq ?_
  refine vc_reg (by kernel_rfl) fun K hK => ?_
  refine run_n (z := false) 14 (fun K' hK' => hK' _ _ _ ?_) (by decide)
  clear hK' K'
  refine vgo_known 101 (b := false) (bb hE) ?_
  refine run_end (z := false) fun K' hK' => hK' _ _ _ (hK _ _ _ ?_)
  clear hK' K' hK K
  refine vc_ret ⟨.inr rfl, ?_⟩
  exact Eq.trans (b := some (.bool _)) rfl (fin_b hO)

theorem p8NB {a m d : Nat} (ha : a < 2 ^ 128) (hm : m < 2 ^ 64) (h0 : 0 < m) (hd0 : 0 < d) (hd : d < 2 ^ 64) (hx : sc a m d true < 2 ^ 128) (hy : ¬ sc (sc a m d true) d m true < 2 ^ 128) (hc : ¬ sc (a % 2 ^ 64) m d false < 2 ^ 64) : Pure 8 [wd a, u64 m, u64 d] (.bool true) := by
  have h1 := p23 (m := m) (d := m) ha hm hm
  rw [scR_ok h0 (by rw [sc_self h0]; exact ha), sc_self h0] at h1
  have h2 := p23 (m := m) (d := d) ha hm hd
  rw [scR_ok hd0 hx] at h2
  have h3 := p23 (m := d) (d := m) hx hd hm
  rw [scR_bad h0 hy] at h3
  have la : a % 2 ^ 64 < 2 ^ 64 := Nat.mod_lt _ (by decide)
  have hud := sc_up (a % 2 ^ 64) m d
  have g1 := p28 (b := m) (d := d) true la hm hd
  have g2 := p28 (b := m) (d := d) false la hm hd
  rw [mdR_bad hd0 (by omega)] at g1
  rw [mdR_bad hd0 (by omega)] at g2
  refine pure_of Try.func8 rfl Try.ntmps8 (by kernel_rfl) rfl (by simp) rfl ?_
  refine vc_seq ?_
  refine vc_go (by kernel_rfl) fun K hK => hK _ _ _ ?_
  clear hK K
  refine vc_seq ?_
  refine vc_seq ?_
  refine vc_reg (by kernel_rfl) fun K hK => ?_
  refine run_call (p21) rfl rfl rfl rfl ?_
  refine run_end (z := false) fun K' hK' => hK' _ _ _ (hK _ _ _ ?_)
  clear hK' K' hK K
  refine vc_cond (t := false) rfl (fun h => by cases h) (fun _ => ?_)
  refine vc_skip ?_
  refine vc_seq ?_
  refine vc_seq ?_
  refine vc_go (by kernel_rfl) fun K hK => hK _ _ _ ?_
  clear hK K
  refine vc_cond (t := true) (bb (pos_dec h0)) (fun _ => ?_) (fun h => by cases h)
  refine vc_seq ?_
  refine vc_reg (by kernel_rfl) fun K hK => ?_
  refine run_n (z := false) 3 (fun K' hK' => hK' _ _ _ ?_) (by decide)
  clear hK' K'
  refine run_call (h1) rfl rfl rfl rfl ?_
  refine run_end (z := false) fun K' hK' => hK' _ _ _ (hK _ _ _ ?_)
  clear hK' K' hK K
  refine vc_seq ?_
  refine vc_go (by kernel_rfl) fun K hK => hK _ _ _ ?_
  clear hK K
  refine vc_cond (t := false) (bb (wd_ne a)) (fun h => by cases h) (fun _ => ?_)
  refine vc_skip ?_
  refine vc_seq ?_
  refine vc_reg (by kernel_rfl) fun K hK => ?_
  refine run_n (z := false) 3 (fun K' hK' => hK' _ _ _ ?_) (by decide)
  clear hK' K'
  refine run_call (h2) rfl rfl rfl rfl ?_
  refine run_end (z := false) fun K' hK' => hK' _ _ _ (hK _ _ _ ?_)
  clear hK' K' hK K
  refine vc_seq ?_
  refine vc_seq ?_
  refine vc_go (by kernel_rfl) fun K hK => hK _ _ _ ?_
  clear hK K
  refine vc_cond (t := false) rfl (fun h => by cases h) (fun _ => ?_)
  refine vc_skip ?_
  refine vc_seq ?_
  refine vc_seq ?_
  refine vc_go (by kernel_rfl) fun K hK => hK _ _ _ ?_
  clear hK K
  refine vc_cond (t := true) (bb (pos_dec h0)) (fun _ => ?_) (fun h => by cases h)
  refine vc_seq ?_
  refine vc_reg (by kernel_rfl) fun K hK => ?_
  refine run_n (z := false) 3 (fun K' hK' => hK' _ _ _ ?_) (by decide)
  clear hK' K'
  refine run_call (h3) rfl rfl rfl rfl ?_
  refine run_end (z := false) fun K' hK' => hK' _ _ _ (hK _ _ _ ?_)
  clear hK' K' hK K
  refine vc_seq ?_
  refine vc_reg (by kernel_rfl) fun K hK => ?_
  refine run_end (z := false) fun K' hK' => hK' _ _ _ (hK _ _ _ ?_)
  clear hK' K' hK K
  refine vc_cond (t := false) rfl (fun h => by cases h) (fun _ => ?_)
  refine vc_skip ?_
  refine vc_seq ?_
  refine vc_reg (by kernel_rfl) fun K hK => ?_
  refine run_n (z := false) 4 (fun K' hK' => hK' _ _ _ ?_) (by decide)
  clear hK' K'
  refine run_call (g1) rfl rfl rfl rfl ?_
  refine run_end (z := false) fun K' hK' => hK' _ _ _ (hK _ _ _ ?_)
  clear hK' K' hK K
  refine vc_seq ?_
  refine vc_reg (by kernel_rfl) fun K hK => ?_
  refine run_n (z := false) 4 (fun K' hK' => hK' _ _ _ ?_) (by decide)
  clear hK' K'
  refine run_call (g2) rfl rfl rfl rfl ?_
  refine run_end (z := false) fun K' hK' => hK' _ _ _ (hK _ _ _ ?_)
  clear hK' K' hK K
  refine vc_seq ?_
  refine vc_seq ?_
  refine vc_go (by kernel_rfl) fun K hK => hK _ _ _ ?_
  clear hK K
  refine vc_cond (t := true) rfl (fun _ => ?_) (fun h => by cases h)
  refine vc_seq ?_
  refine vc_go (by kernel_rfl) fun K hK => hK _ _ _ ?_
  clear hK K
  exact vc_ret ⟨.inr rfl, rfl⟩

theorem p8NT {a m d : Nat} (ha : a < 2 ^ 128) (hm : m < 2 ^ 64) (h0 : 0 < m) (hd0 : 0 < d) (hd : d < 2 ^ 64) (hx : sc a m d true < 2 ^ 128) (hy : ¬ sc (sc a m d true) d m true < 2 ^ 128) (hc : sc (a % 2 ^ 64) m d false < 2 ^ 64 ∧ ¬ sc (a % 2 ^ 64) m d true < 2 ^ 64) : Pure 8 [wd a, u64 m, u64 d] (.bool true) := by
  have h1 := p23 (m := m) (d := m) ha hm hm
  rw [scR_ok h0 (by rw [sc_self h0]; exact ha), sc_self h0] at h1
  have h2 := p23 (m := m) (d := d) ha hm hd
  rw [scR_ok hd0 hx] at h2
  have h3 := p23 (m := d) (d := m) hx hd hm
  rw [scR_bad h0 hy] at h3
  have la : a % 2 ^ 64 < 2 ^ 64 := Nat.mod_lt _ (by decide)
  have hud := sc_up (a % 2 ^ 64) m d
  have g1 := p28 (b := m) (d := d) true la hm hd
  have g2 := p28 (b := m) (d := d) false la hm hd
  rw [mdR_bad hd0 (by omega)] at g1
  rw [mdR_ok hd0 (by omega)] at g2
  have hD : (((sc (a % 2 ^ 64) m d false : Nat) : Int) == 18446744073709551615) = true := by rw [beq_iff_eq]; omega
  refine pure_of Try.func8 rfl Try.ntmps8 (by kernel_rfl) rfl (by simp) rfl ?_
  refine vc_seq ?_
  refine vc_go (by kernel_rfl) fun K hK => hK _ _ _ ?_
  clear hK K
  refine vc_seq ?_
  refine vc_seq ?_
  refine vc_reg (by kernel_rfl) fun K hK => ?_
  refine run_call (p21) rfl rfl rfl rfl ?_
  refine run_end (z := false) fun K' hK' => hK' _ _ _ (hK _ _ _ ?_)
  clear hK' K' hK K
  refine vc_cond (t := false) rfl (fun h => by cases h) (fun _ => ?_)
  refine vc_skip ?_
  refine vc_seq ?_
  refine vc_seq ?_
  refine vc_go (by kernel_rfl) fun K hK => hK _ _ _ ?_
  clear hK K
  refine vc_cond (t := true) (bb (pos_dec h0)) (fun _ => ?_) (fun h => by cases h)
  refine vc_seq ?_
  refine vc_reg (by kernel_rfl) fun K hK => ?_
  refine run_n (z := false) 3 (fun K' hK' => hK' _ _ _ ?_) (by decide)
  clear hK' K'
  refine run_call (h1) rfl rfl rfl rfl ?_
  refine run_end (z := false) fun K' hK' => hK' _ _ _ (hK _ _ _ ?_)
  clear hK' K' hK K
  refine vc_seq ?_
  refine vc_go (by kernel_rfl) fun K hK => hK _ _ _ ?_
  clear hK K
  refine vc_cond (t := false) (bb (wd_ne a)) (fun h => by cases h) (fun _ => ?_)
  refine vc_skip ?_
  refine vc_seq ?_
  refine vc_reg (by kernel_rfl) fun K hK => ?_
  refine run_n (z := false) 3 (fun K' hK' => hK' _ _ _ ?_) (by decide)
  clear hK' K'
  refine run_call (h2) rfl rfl rfl rfl ?_
  refine run_end (z := false) fun K' hK' => hK' _ _ _ (hK _ _ _ ?_)
  clear hK' K' hK K
  refine vc_seq ?_
  refine vc_seq ?_
  refine vc_go (by kernel_rfl) fun K hK => hK _ _ _ ?_
  clear hK K
  refine vc_cond (t := false) rfl (fun h => by cases h) (fun _ => ?_)
  refine vc_skip ?_
  refine vc_seq ?_
  refine vc_seq ?_
  refine vc_go (by kernel_rfl) fun K hK => hK _ _ _ ?_
  clear hK K
  refine vc_cond (t := true) (bb (pos_dec h0)) (fun _ => ?_) (fun h => by cases h)
  refine vc_seq ?_
  refine vc_reg (by kernel_rfl) fun K hK => ?_
  refine run_n (z := false) 3 (fun K' hK' => hK' _ _ _ ?_) (by decide)
  clear hK' K'
  refine run_call (h3) rfl rfl rfl rfl ?_
  refine run_end (z := false) fun K' hK' => hK' _ _ _ (hK _ _ _ ?_)
  clear hK' K' hK K
  refine vc_seq ?_
  refine vc_reg (by kernel_rfl) fun K hK => ?_
  refine run_end (z := false) fun K' hK' => hK' _ _ _ (hK _ _ _ ?_)
  clear hK' K' hK K
  refine vc_cond (t := false) rfl (fun h => by cases h) (fun _ => ?_)
  refine vc_skip ?_
  refine vc_seq ?_
  refine vc_reg (by kernel_rfl) fun K hK => ?_
  refine run_n (z := false) 4 (fun K' hK' => hK' _ _ _ ?_) (by decide)
  clear hK' K'
  refine run_call (g1) rfl rfl rfl rfl ?_
  refine run_end (z := false) fun K' hK' => hK' _ _ _ (hK _ _ _ ?_)
  clear hK' K' hK K
  refine vc_seq ?_
  refine vc_reg (by kernel_rfl) fun K hK => ?_
  refine run_n (z := false) 4 (fun K' hK' => hK' _ _ _ ?_) (by decide)
  clear hK' K'
  refine run_call (g2) rfl rfl rfl rfl ?_
  refine run_end (z := false) fun K' hK' => hK' _ _ _ (hK _ _ _ ?_)
  clear hK' K' hK K
  refine vc_seq ?_
  refine vc_seq ?_
  refine vc_go (by kernel_rfl) fun K hK => hK _ _ _ ?_
  clear hK K
  refine vc_cond (t := false) rfl (fun h => by cases h) (fun _ => ?_)
  refine vc_skip ?_
  refine vc_seq ?_
  refine vc_reg (by kernel_rfl) fun K hK => ?_
  refine run_n (z := false) 7 (fun K' hK' => hK' _ _ _ ?_) (by decide)
  clear hK' K'
  refine vgo_known 94 (b := true) (bb hD) ?_
  refine run_end (z := false) fun K' hK' => hK' _ _ _ (hK _ _ _ ?_)
  clear hK' K' hK K
  exact vc_ret ⟨.inr rfl, rfl⟩

theorem p8NE {a m d : Nat} (ha : a < 2 ^ 128) (hm : m < 2 ^ 64) (h0 : 0 < m) (hd0 : 0 < d) (hd : d < 2 ^ 64) (hx : sc a m d true < 2 ^ 128) (hy : ¬ sc (sc a m d true) d m true < 2 ^ 128) (hc : sc (a % 2 ^ 64) m d true < 2 ^ 64 ∧ sc (a % 2 ^ 64) m d true = sc (a % 2 ^ 64) m d false) : Pure 8 [wd a, u64 m, u64 d] (.bool true) := by
  have h1 := p23 (m := m) (d := m) ha hm hm
  rw [scR_ok h0 (by rw [sc_self h0]; exact ha), sc_self h0] at h1
  have h2 := p23 (m := m) (d := d) ha hm hd
  rw [scR_ok hd0 hx] at h2
  have h3 := p23 (m := d) (d := m) hx hd hm
  rw [scR_bad h0 hy] at h3
  have la : a % 2 ^ 64 < 2 ^ 64 := Nat.mod_lt _ (by decide)
  have hud := sc_up (a % 2 ^ 64) m d
  have g1 := p28 (b := m) (d := d) true la hm hd
  have g2 := p28 (b := m) (d := d) false la hm hd
  rw [mdR_ok hd0 (by omega)] at g1
  rw [mdR_ok hd0 (by omega)] at g2
  have hE : (((sc (a % 2 ^ 64) m d true : Nat) : Int) == ((sc (a % 2 ^ 64) m d false : Nat) : Int)) = true := by rw [beq_iff_eq]; omega
  refine pure_of Try.func8 rfl Try.ntmps8 (by kernel_rfl) rfl (by simp) rfl ?_
  refine vc_seq ?_
  refine vc_go (by kernel_rfl) fun K hK => hK _ _ _ ?_
  clear hK K
  refine vc_seq ?_
  refine vc_seq ?_
  refine vc_reg (by kernel_rfl) fun K hK => ?_
  refine run_call (p21) rfl rfl rfl rfl ?_
  refine run_end (z := false) fun K' hK' => hK' _ _ _ (hK _ _ _ ?_)
  clear hK' K' hK K
  refine vc_cond (t := false) rfl (fun h => by cases h) (fun _ => ?_)
  refine vc_skip ?_
  refine vc_seq ?_
  refine vc_seq ?_
  refine vc_go (by kernel_rfl) fun K hK => hK _ _ _ ?_
  clear hK K
  refine vc_cond (t := true) (bb (pos_dec h0)) (fun _ => ?_) (fun h => by cases h)
  refine vc_seq ?_
  refine vc_reg (by kernel_rfl) fun K hK => ?_
  refine run_n (z := false) 3 (fun K' hK' => hK' _ _ _ ?_) (by decide)
  clear hK' K'
  refine run_call (h1) rfl rfl rfl rfl ?_
  refine run_end (z := false) fun K' hK' => hK' _ _ _ (hK _ _ _ ?_)
  clear hK' K' hK K
  refine vc_seq ?_
  refine vc_go (by kernel_rfl) fun K hK => hK _ _ _ ?_
  clear hK K
  refine vc_cond (t := false) (bb (wd_ne a)) (fun h => by cases h) (fun _ => ?_)
  refine vc_skip ?_
  refine vc_seq ?_
  refine vc_reg (by kernel_rfl) fun K hK => ?_
  refine run_n (z := false) 3 (fun K' hK' => hK' _ _ _ ?_) (by decide)
  clear hK' K'
  refine run_call (h2) rfl rfl rfl rfl ?_
  refine run_end (z := false) fun K' hK' => hK' _ _ _ (hK _ _ _ ?_)
  clear hK' K' hK K
  refine vc_seq ?_
  refine vc_seq ?_
  refine vc_go (by kernel_rfl) fun K hK => hK _ _ _ ?_
  clear hK K
  refine vc_cond (t := false) rfl (fun h => by cases h) (fun _ => ?_)
  refine vc_skip ?_
  refine vc_seq ?_
  refine vc_seq ?_
  refine vc_go (by kernel_rfl) fun K hK => hK _ _ _ ?_
  clear hK K
  refine vc_cond (t := true) (bb (pos_dec h0)) (fun _ => ?_) (fun h => by cases h)
  refine vc_seq ?_
  refine vc_reg (by kernel_rfl) fun K hK => ?_
  refine run_n (z := false) 3 (fun K' hK' => hK' _ _ _ ?_) (by decide)
  clear hK' K'
  refine run_call (h3) rfl rfl rfl rfl ?_
  refine run_end (z := false) fun K' hK' => hK' _ _ _ (hK _ _ _ ?_)
  clear hK' K' hK K
  refine vc_seq ?_
  refine vc_reg (by kernel_rfl) fun K hK => ?_
  refine run_end (z := false) fun K' hK' => hK' _ _ _ (hK _ _ _ ?_)
  clear hK' K' hK K
  refine vc_cond (t := false) rfl (fun h => by cases h) (fun _ => ?_)
  refine vc_skip ?_
  refine vc_seq ?_
  refine vc_reg (by kernel_rfl) fun K hK => ?_
  refine run_n (z := false) 4 (fun K' hK' => hK' _ _ _ ?_) (by decide)
  clear hK' K'
  refine run_call (g1) rfl rfl rfl rfl ?_
  refine run_end (z := false) fun K' hK' => hK' _ _ _ (hK _ _ _ ?_)
  clear hK' K' hK K
  refine vc_seq ?_
  refine vc_reg (by kernel_rfl) fun K hK => ?_
  refine run_n (z := false) 4 (fun K' hK' => hK' _ _ _ ?_) (by decide)
  clear hK' K'
  refine run_call (g2) rfl rfl rfl rfl ?_
  refine run_end (z := false) fun K' hK' => hK' _ _ _ (hK _ _ _ ?_)
  clear hK' K' hK K
  refine vc_seq ?_
  refine vc_seq ?_
  refine vc_go (by kernel_rfl) fun K hK => hK _ _ _ ?_
  clear hK K
  refine vc_cond (t := false) rfl (fun h => by cases h) (fun _ => ?_)
  refine vc_skip ?_
  refine vc_seq ?_
  refine vc_reg (by kernel_rfl) fun K hK => ?_
  refine run_n (z := false) 14 (fun K' hK' => hK' _ _ _ ?_) (by decide)
  clear hK' K'
  refine vgo_known 101 (b := true) (bb hE) ?_
  refine run_end (z := false) fun K' hK' => hK' _ _ _ (hK _ _ _ ?_)
  clear hK' K' hK K
  exact vc_ret ⟨.inr rfl, rfl⟩

theorem p8NO {a m d : Nat} (ha : a < 2 ^ 128) (hm : m < 2 ^ 64) (h0 : 0 < m) (hd0 : 0 < d) (hd : d < 2 ^ 64) (hx : sc a m d true < 2 ^ 128) (hy : ¬ sc (sc a m d true) d m true < 2 ^ 128) (hc : sc (a % 2 ^ 64) m d true < 2 ^ 64 ∧ sc (a % 2 ^ 64) m d true = sc (a % 2 ^ 64) m d false + 1) : Pure 8 [wd a, u64 m, u64 d] (.bool true) := by
  have h1 := p23 (m := m) (d := m) ha hm hm
  rw [scR_ok h0 (by rw [sc_self h0]; exact ha), sc_self h0] at h1
  have h2 := p23 (m := m) (d := d) ha hm hd
  rw [scR_ok hd0 hx] at h2
  have h3 := p23 (m := d) (d := m) hx hd hm
  rw [scR_bad h0 hy] at h3
  have la : a % 2 ^ 64 < 2 ^ 64 := Nat.mod_lt _ (by decide)
  have hud := sc_up (a % 2 ^ 64) m d
  have g1 := p28 (b := m) (d := d) true la hm hd
  have g2 := p28 (b := m) (d := d) false la hm hd
  rw [mdR_ok hd0 (by omega)] at g1
  rw [mdR_ok hd0 (by omega)] at g2
  have hE : (((sc (a % 2 ^ 64) m d true : Nat) : Int) == ((sc (a % 2 ^ 64) m d false : Nat) : Int)) = false := by rw [beq_eq_false_iff_ne]; omega
  have hO : (((sc (a % 2 ^ 64) m d true : Nat) : Int) == IntKind.u64.wrap (((sc (a % 2 ^ 64) m d false : Nat) : Int) + 1)) = true := by rw [beq_iff_eq, wrap64]; omega
  refine pure_of Try.func8 rfl Try.ntmps8 (by kernel_rfl) rfl (by simp) rfl ?_
  refine vc_seq ?_
  refine vc_go (by kernel_rfl) fun K hK => hK _ _ _ ?_
  clear hK K
  refine vc_seq ?_
  refine vc_seq ?_
  refine vc_reg (by kernel_rfl) fun K hK => ?_
  refine run_call (p21) rfl rfl rfl rfl ?_
  refine run_end (z := false) fun K' hK' => hK' _ _ _ (hK _ _ _ ?_)
  clear hK' K' hK K
  refine vc_cond (t := false) rfl (fun h => by cases h) (fun _ => ?_)
  refine vc_skip ?_
  refine vc_seq ?_
  refine vc_seq ?_
  refine vc_go (by kernel_rfl) fun K hK => hK _ _ _ ?_
  clear hK K
  refine vc_cond (t := true) (bb (pos_dec h0)) (fun _ => ?_) (fun h => by cases h)
  refine vc_seq ?_
  refine vc_reg (by kernel_rfl) fun K hK => ?_
  refine run_n (z := false) 3 (fun K' hK' => hK' _ _ _ ?_) (by decide)
  clear hK' K'
  refine run_call (h1) rfl rfl rfl rfl ?_
  refine run_end (z := false) fun K' hK' => hK' _ _ _ (hK _ _ _ ?_)
  clear hK' K' hK K
  refine vc_seq ?_
  refine vc_go (by kernel_rfl) fun K hK => hK _ _ _ ?_
  clear hK K
  refine vc_cond (t := false) (bb (wd_ne a)) (fun h => by cases h) (fun _ => ?_)
  refine vc_skip ?_
  refine vc_seq ?_
  refine vc_reg (by kernel_rfl) fun K hK => ?_
  refine run_n (z := false) 3 (fun K' hK' => hK' _ _ _ ?_) (by decide)
  clear hK' K'
  refine run_call (h2) rfl rfl rfl rfl ?_
  refine run_end (z := false) fun K' hK' => hK' _ _ _ (hK _ _ _ ?_)
  clear hK' K' hK K
  refine vc_seq ?_
  refine vc_seq ?_
  refine vc_go (by kernel_rfl) fun K hK => hK _ _ _ ?_
  clear hK K
  refine vc_cond (t := false) rfl (fun h => by cases h) (fun _ => ?_)
  refine vc_skip ?_
  refine vc_seq ?_
  refine vc_seq ?_
  refine vc_go (by kernel_rfl) fun K hK => hK _ _ _ ?_
  clear hK K
  refine vc_cond (t := true) (bb (pos_dec h0)) (fun _ => ?_) (fun h => by cases h)
  refine vc_seq ?_
  refine vc_reg (by kernel_rfl) fun K hK => ?_
  refine run_n (z := false) 3 (fun K' hK' => hK' _ _ _ ?_) (by decide)
  clear hK' K'
  refine run_call (h3) rfl rfl rfl rfl ?_
  refine run_end (z := false) fun K' hK' => hK' _ _ _ (hK _ _ _ ?_)
  clear hK' K' hK K
  refine vc_seq ?_
  refine vc_reg (by kernel_rfl) fun K hK => ?_
  refine run_end (z := false) fun K' hK' => hK' _ _ _ (hK _ _ _ ?_)
  clear hK' K' hK K
  refine vc_cond (t := false) rfl (fun h => by cases h) (fun _ => ?_)
  refine vc_skip ?_
  refine vc_seq ?_
  refine vc_reg (by kernel_rfl) fun K hK => ?_
  refine run_n (z := false) 4 (fun K' hK' => hK' _ _ _ ?_) (by decide)
  clear hK' K'
  refine run_call (g1) rfl rfl rfl rfl ?_
  refine run_end (z := false) fun K' hK' => hK' _ _ _ (hK _ _ _ ?_)
  clear hK' K' hK K
  refine vc_seq ?_
  refine vc_reg (by kernel_rfl) fun K hK => ?_
  refine run_n (z := false) 4 (fun K' hK' => hK' _ _ _ ?_) (by decide)
  clear hK' K'
  refine run_call (g2) rfl rfl rfl rfl ?_
  refine run_end (z := false) fun K' hK' => hK' _ _ _ (hK _ _ _ ?_)
  clear hK' K' hK K
  refine vc_seq ?_
  refine vc_seq ?_
  refine vc_go (by kernel_rfl) fun K hK => hK _ _ _ ?_
  clear hK K
  refine vc_cond (t := false) rfl (fun h => by cases h) (fun _ => ?_)
  refine vc_skip ?_
  refine vc_seq ?_
  refine vc_reg (by kernel_rfl) fun K hK => ?_
  refine run_n (z := false) 14 (fun K' hK' => hK' _ _ _ ?_) (by decide)
  clear hK' K'
  refine vgo_known 101 (b := false) (bb hE) ?_
  refine run_end (z := false) fun K' hK' => hK' _ _ _ (hK _ _ _ ?_)
  clear hK' K' hK K
  refine vc_ret ⟨.inr rfl, ?_⟩
  exact Eq.trans (b := some (.bool _)) rfl (fin_b hO)

theorem p8 {a m d : Nat} (ha : a < 2 ^ 128) (hm : m < 2 ^ 64) (hd : d < 2 ^ 64) : Pure 8 [wd a, u64 m, u64 d] (.bool true) := by
  rcases Nat.eq_zero_or_pos d with rfl | hd0
  · rcases Nat.eq_zero_or_pos m with rfl | h0
    · exact p8a ha
    · exact p8b ha hm h0
  · rcases Nat.eq_zero_or_pos m with rfl | h0
    · exact p8d ha hd0 hd
    · by_cases hx : sc a m d true < 2 ^ 128
      · have hud := sc_up (a % 2 ^ 64) m d
        have t : ¬ sc (a % 2 ^ 64) m d false < 2 ^ 64 ∨ (sc (a % 2 ^ 64) m d false < 2 ^ 64 ∧ ¬ sc (a % 2 ^ 64) m d true < 2 ^ 64) ∨ (sc (a % 2 ^ 64) m d true < 2 ^ 64 ∧ sc (a % 2 ^ 64) m d true = sc (a % 2 ^ 64) m d false) ∨
            (sc (a % 2 ^ 64) m d true < 2 ^ 64 ∧ sc (a % 2 ^ 64) m d true = sc (a % 2 ^ 64) m d false + 1) := by omega
        by_cases hy : sc (sc a m d true) d m true < 2 ^ 128
        · rcases t with t | t | t | t
          · exact p8YB ha hm h0 hd0 hd hx hy t
          · exact p8YT ha hm h0 hd0 hd hx hy t
          · exact p8YE ha hm h0 hd0 hd hx hy t
          · exact p8YO ha hm h0 hd0 hd hx hy t
        · rcases t with t | t | t | t
          · exact p8NB ha hm h0 hd0 hd hx hy t
          · exact p8NT ha hm h0 hd0 hd hx hy t
          · exact p8NE ha hm h0 hd0 hd hx hy t
          · exact p8NO ha hm h0 hd0 hd hx hy t
      · exact p8c ha hm h0 hd0 hd hx

end Go.Proofs.Ytdfkcijholopoaa.Vm
