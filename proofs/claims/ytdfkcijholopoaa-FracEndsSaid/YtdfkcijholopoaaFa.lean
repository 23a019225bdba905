/- Layer frac: weights, fractions that may be, their order. -/
import Derived.Test.YtdfkcijholopoaaBg
namespace Go.Proofs.Ytdfkcijholopoaa.Vm
open Go Go.RowKit
set_option maxRecDepth 10000
set_option linter.unusedSimpArgs false
set_option linter.unusedVariables false

/-- May w be a weight? -/
def wt (w : Nat) : Bool := decide (1 ≤ w ∧ w ≤ 65535)
/-- May n over w be a fraction? -/
def rt (n w : Nat) : Bool := decide (1 ≤ w ∧ w ≤ 65535 ∧ n < 2 ^ 100)
def fr (n w : Nat) : Value := .agg #[.int .u64 ((n / 2 ^ 64 : Nat) : Int), .int .u64 ((n % 2 ^ 64 : Nat) : Int), .int .u64 (w : Int)]
def frc (n w : Nat) : List Value := [.int .u64 ((n / 2 ^ 64 : Nat) : Int), .int .u64 ((n % 2 ^ 64 : Nat) : Int), .int .u64 (w : Int)]
theorem fin_bb {b b' : Bool} (h : b = b') : some (Value.bool b) = some (.bool b') := by rw [h]
theorem rt_w {n w : Nat} (h : rt n w = true) : 1 ≤ w ∧ w ≤ 65535 ∧ n < 2 ^ 100 := by simpa [rt] using h
theorem wt_w {w : Nat} (h : wt w = true) : 1 ≤ w ∧ w ≤ 65535 := by simpa [wt] using h
theorem wt_f {w : Nat} (h : wt w = false) : w < 1 ∨ 65535 < w := by
  have : ¬ (1 ≤ w ∧ w ≤ 65535) := by simpa only [wt, decide_eq_false_iff_not] using h
  omega
theorem rt_wt {n w : Nat} (h : rt n w = true) : wt w = true := by
  have := rt_w h
  rw [wt, decide_eq_true_eq]; omega
theorem rt_bad {n w : Nat} (h : (!wt w) = true) : rt n w = false := by
  have := wt_f (by simpa using h)
  rw [rt, decide_eq_false_iff_not]; omega
theorem rt_big {n w : Nat} (h : decide (((n / 2 ^ 64 : Nat) : Int) ≥ 68719476736) = true) : rt n w = false := by
  rw [decide_eq_true_eq] at h
  rw [rt, decide_eq_false_iff_not]; omega
theorem rt_ok {n w : Nat} (h : (!wt w) = false) (h2 : decide (((n / 2 ^ 64 : Nat) : Int) ≥ 68719476736) = false) : rt n w = true := by
  have := wt_w (w := w) (by simpa using h)
  rw [decide_eq_false_iff_not] at h2
  rw [rt, decide_eq_true_eq]; omega


theorem p106 (w : Nat) : Pure 106 [u64 w] (.bool (wt w)) := by
  refine pure_of Try.func106 rfl Try.ntmps106 (by kernel_rfl) rfl (by simp) rfl ?_
  refine vc_seq ?_
  refine vc_go (by kernel_rfl) fun K hK => hK _ _ _ ?_
  clear hK K
  refine vc_seq ?_
  refine vc_reg (by kernel_rfl) fun K hK => ?_
  refine run_n (z := false) 3 (fun K' hK' => hK' _ _ _ ?_) (by decide)
  clear hK' K'
  refine vgo_case 5 rfl (fun g0 => ?_) (fun g0 => ?_)
  · -- split 0 at 1,3 true
    refine run_end (z := false) fun K' hK' => hK' _ _ _ (hK _ _ _ ?_)
    clear hK' K' hK K
    refine vc_ret ⟨.inr rfl, ?_⟩
    exact Eq.trans (b := some (.bool _)) rfl (fin_bb (by rw [Bool.eq_iff_iff]; simp only [wt, decide_eq_true_eq, decide_eq_false_iff_not, Bool.false_eq_true, false_iff] at *; omega))
  · -- split 0 at 1,3 false
    refine run_end (z := false) fun K' hK' => hK' _ _ _ (hK _ _ _ ?_)
    clear hK' K' hK K
    refine vc_ret ⟨.inr rfl, ?_⟩
    exact Eq.trans (b := some (.bool _)) rfl (fin_bb (by rw [Bool.eq_iff_iff]; simp only [wt, decide_eq_true_eq, decide_eq_false_iff_not, Bool.false_eq_true, false_iff] at *; omega))

theorem p59 (w : Nat) : Pure 59 [u64 w] (.bool (wt w)) := by
  refine pure_of Try.func59 rfl Try.ntmps59 (by kernel_rfl) rfl (by simp) rfl ?_
  refine vc_seq ?_
  refine vc_go (by kernel_rfl) fun K hK => hK _ _ _ ?_
  clear hK K
  refine vc_seq ?_
  refine vc_reg (by kernel_rfl) fun K hK => ?_
  refine run_n (z := false) 3 (fun K' hK' => hK' _ _ _ ?_) (by decide)
  clear hK' K'
  refine vgo_case 5 rfl (fun g0 => ?_) (fun g0 => ?_)
  · -- split 0 at 1,3 true
    refine run_end (z := false) fun K' hK' => hK' _ _ _ (hK _ _ _ ?_)
    clear hK' K' hK K
    refine vc_ret ⟨.inr rfl, ?_⟩
    exact Eq.trans (b := some (.bool _)) rfl (fin_bb (by rw [Bool.eq_iff_iff]; simp only [wt, decide_eq_true_eq, decide_eq_false_iff_not, Bool.false_eq_true, false_iff] at *; omega))
  · -- split 0 at 1,3 false
    refine run_end (z := false) fun K' hK' => hK' _ _ _ (hK _ _ _ ?_)
    clear hK' K' hK K
    refine vc_ret ⟨.inr rfl, ?_⟩
    exact Eq.trans (b := some (.bool _)) rfl (fin_bb (by rw [Bool.eq_iff_iff]; simp only [wt, decide_eq_true_eq, decide_eq_false_iff_not, Bool.false_eq_true, false_iff] at *; omega))

theorem p90a (n w : Nat) : RO 90 [.slice (some ⟨0, 0, none⟩) 1 1] [(0, frc n w)] (.bool (rt n w)) := by
  refine ro_of _ 1 Try.func90 rfl Try.ntmps90 (by kernel_rfl) (by simp) rfl rfl (by simp) (by simp [plainL, plain, frc]) ?_
  refine vc_seq ?_
  refine vc_go (by kernel_rfl) fun K hK => hK _ _ _ ?_
  clear hK K
  refine vc_seq ?_
  refine vc_seq ?_
  refine vc_go (by kernel_rfl) fun K hK => hK _ _ _ ?_
  clear hK K
  refine vc_block ?_
  refine vc_rounds 2 ?_
  refine vc_seq ?_
  refine vc_go (by kernel_rfl) fun K hK => hK _ _ _ ?_
  clear hK K
  refine vc_seq ?_
  refine vc_cond (t := true) rfl (fun _ => ?_) (fun h => by cases h)
  refine vc_skip ?_
  refine vc_seq ?_
  refine vc_block ?_
  refine vc_seq ?_
  refine vc_go (by kernel_rfl) fun K hK => hK _ _ _ ?_
  clear hK K
  refine vc_seq ?_
  refine vc_reg (by kernel_rfl) fun K hK => ?_
  refine run_n (z := false) 2 (fun K' hK' => hK' _ _ _ ?_) (by decide)
  clear hK' K'
  refine run_call (p106 w) rfl rfl rfl rfl ?_
  refine run_n (z := false) 2 (fun K' hK' => hK' _ _ _ ?_) (by decide)
  clear hK' K'
  refine vgo_case 15 rfl (fun g0 => ?_) (fun g0 => ?_)
  · -- split 0 at 4,5 true
    refine run_end (z := false) fun K' hK' => hK' _ _ _ (hK _ _ _ ?_)
    clear hK' K' hK K
    refine vc_cond (t := true) rfl (fun _ => ?_) (fun h => by cases h)
    refine vc_seq ?_
    refine vc_go (by kernel_rfl) fun K hK => hK _ _ _ ?_
    clear hK K
    refine vc_ret ⟨.inr rfl, ?_⟩
    rw [rt_bad g0]
    rfl
  · -- split 0 at 4,5 false
    refine run_end (z := false) fun K' hK' => hK' _ _ _ (hK _ _ _ ?_)
    clear hK' K' hK K
    refine vc_cond rfl (fun c2 => ?_) (fun c2 => ?_)
    · -- cond 2 t20 true
      refine vc_seq ?_
      refine vc_go (by kernel_rfl) fun K hK => hK _ _ _ ?_
      clear hK K
      refine vc_ret ⟨.inr rfl, ?_⟩
      rw [rt_big c2]
      rfl
    · -- cond 2 t20 false
      refine vc_skip ?_
      refine vc_go (by kernel_rfl) fun K hK => hK _ _ _ ?_
      clear hK K
      refine vc_seq ?_
      refine vc_go (by kernel_rfl) fun K hK => hK _ _ _ ?_
      clear hK K
      refine vc_seq ?_
      refine vc_cond (t := false) rfl (fun h => by cases h) (fun _ => ?_)
      refine vc_exit ?_
      refine vc_seq ?_
      refine vc_go (by kernel_rfl) fun K hK => hK _ _ _ ?_
      clear hK K
      refine vc_ret ⟨.inr rfl, ?_⟩
      rw [rt_ok g0 c2]
      rfl

theorem p90b (n w m v : Nat) : RO 90 [.slice (some ⟨0, 0, none⟩) 2 2] [(0, frc n w ++ frc m v)] (.bool (rt n w && rt m v)) := by
  refine ro_of _ 1 Try.func90 rfl Try.ntmps90 (by kernel_rfl) (by simp) rfl rfl (by simp) (by simp [plainL, plain, frc]) ?_
  refine vc_seq ?_
  refine vc_go (by kernel_rfl) fun K hK => hK _ _ _ ?_
  clear hK K
  refine vc_seq ?_
  refine vc_seq ?_
  refine vc_go (by kernel_rfl) fun K hK => hK _ _ _ ?_
  clear hK K
  refine vc_block ?_
  refine vc_rounds 3 ?_
  refine vc_seq ?_
  refine vc_go (by kernel_rfl) fun K hK => hK _ _ _ ?_
  clear hK K
  refine vc_seq ?_
  refine vc_cond (t := true) rfl (fun _ => ?_) (fun h => by cases h)
  refine vc_skip ?_
  refine vc_seq ?_
  refine vc_block ?_
  refine vc_seq ?_
  refine vc_go (by kernel_rfl) fun K hK => hK _ _ _ ?_
  clear hK K
  refine vc_seq ?_
  refine vc_reg (by kernel_rfl) fun K hK => ?_
  refine run_n (z := false) 2 (fun K' hK' => hK' _ _ _ ?_) (by decide)
  clear hK' K'
  refine run_call (p106 w) rfl rfl rfl rfl ?_
  refine run_n (z := false) 2 (fun K' hK' => hK' _ _ _ ?_) (by decide)
  clear hK' K'
  refine vgo_case 15 rfl (fun g0 => ?_) (fun g0 => ?_)
  · -- split 0 at 4,5 true
    refine run_end (z := false) fun K' hK' => hK' _ _ _ (hK _ _ _ ?_)
    clear hK' K' hK K
    refine vc_cond (t := true) rfl (fun _ => ?_) (fun h => by cases h)
    refine vc_seq ?_
    refine vc_go (by kernel_rfl) fun K hK => hK _ _ _ ?_
    clear hK K
    refine vc_ret ⟨.inr rfl, ?_⟩
    rw [rt_bad g0, Bool.false_and]
    rfl
  · -- split 0 at 4,5 false
    refine run_end (z := false) fun K' hK' => hK' _ _ _ (hK _ _ _ ?_)
    clear hK' K' hK K
    refine vc_cond rfl (fun c2 => ?_) (fun c2 => ?_)
    · -- cond 2 t20 true
      refine vc_seq ?_
      refine vc_go (by kernel_rfl) fun K hK => hK _ _ _ ?_
      clear hK K
      refine vc_ret ⟨.inr rfl, ?_⟩
      rw [rt_big c2, Bool.false_and]
      rfl
    · -- cond 2 t20 false
      refine vc_skip ?_
      refine vc_go (by kernel_rfl) fun K hK => hK _ _ _ ?_
      clear hK K
      refine vc_seq ?_
      refine vc_go (by kernel_rfl) fun K hK => hK _ _ _ ?_
      clear hK K
      refine vc_seq ?_
      refine vc_cond (t := true) rfl (fun _ => ?_) (fun h => by cases h)
      refine vc_skip ?_
      refine vc_seq ?_
      refine vc_block ?_
      refine vc_seq ?_
      refine vc_go (by kernel_rfl) fun K hK => hK _ _ _ ?_
      clear hK K
      refine vc_seq ?_
      refine vc_reg (by kernel_rfl) fun K hK => ?_
      refine run_n (z := false) 2 (fun K' hK' => hK' _ _ _ ?_) (by decide)
      clear hK' K'
      refine run_call (p106 v) rfl rfl rfl rfl ?_
      refine run_n (z := false) 2 (fun K' hK' => hK' _ _ _ ?_) (by decide)
      clear hK' K'
      refine vgo_case 15 rfl (fun g1 => ?_) (fun g1 => ?_)
      · -- split 1 at 4,5 true
        refine run_end (z := false) fun K' hK' => hK' _ _ _ (hK _ _ _ ?_)
        clear hK' K' hK K
        refine vc_cond (t := true) rfl (fun _ => ?_) (fun h => by cases h)
        refine vc_seq ?_
        refine vc_go (by kernel_rfl) fun K hK => hK _ _ _ ?_
        clear hK K
        refine vc_ret ⟨.inr rfl, ?_⟩
        rw [rt_bad g1, Bool.and_false]
        rfl
      · -- split 1 at 4,5 false
        refine run_end (z := false) fun K' hK' => hK' _ _ _ (hK _ _ _ ?_)
        clear hK' K' hK K
        refine vc_cond rfl (fun c5 => ?_) (fun c5 => ?_)
        · -- cond 5 t20 true
          refine vc_seq ?_
          refine vc_go (by kernel_rfl) fun K hK => hK _ _ _ ?_
          clear hK K
          refine vc_ret ⟨.inr rfl, ?_⟩
          rw [rt_big c5, Bool.and_false]
          rfl
        · -- cond 5 t20 false
          refine vc_skip ?_
          refine vc_go (by kernel_rfl) fun K hK => hK _ _ _ ?_
          clear hK K
          refine vc_seq ?_
          refine vc_go (by kernel_rfl) fun K hK => hK _ _ _ ?_
          clear hK K
          refine vc_seq ?_
          refine vc_cond (t := false) rfl (fun h => by cases h) (fun _ => ?_)
          refine vc_exit ?_
          refine vc_seq ?_
          refine vc_go (by kernel_rfl) fun K hK => hK _ _ _ ?_
          clear hK K
          refine vc_ret ⟨.inr rfl, ?_⟩
          rw [rt_ok g0 c2, rt_ok g1 c5]
          rfl
end Go.Proofs.Ytdfkcijholopoaa.Vm
