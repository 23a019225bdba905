/- The reference's product over a number, walked; and the program's. -/
import Derived.Test.YtdfkcijholopoaaBe
namespace Go.Proofs.Ytdfkcijholopoaa.Vm
open Go Go.RowKit
set_option maxRecDepth 10000
set_option linter.unusedSimpArgs false
set_option linter.unusedVariables false

theorem bits_zero {v : Nat} (hv : v < 2 ^ 256) : decide (v = 0) = true ↔ ∀ k, k < 256 → v.testBit k = false := by
  rw [decide_eq_true_eq]
  constructor
  · rintro rfl k _
    exact Nat.zero_testBit k
  · intro h
    have := bits_lt (n := 0) hv (fun k _ hk => h k hk)
    omega
theorem agg0 : Value.agg bits0.toArray = .agg (bl fun _ => false).toArray := by rw [bl_zero]
theorem p25s {d : Nat} (hd : d < 2 ^ 64) : Pure 25 [.agg #[.int .u64 0, .int .u64 (d : Int)]] (b8 d) := by
  have h := p25 (a := d) (Nat.lt_trans hd (by decide))
  rw [wd_small hd] at h
  exact h
theorem p31s {a m : Nat} (ha : a < 2 ^ 128) (hm : m < 2 ^ 64) : Pure 31 [b8 a, u64 m] (b8 (a * m)) := by
  have h := p31 (a := a) hm
  rw [Nat.mod_eq_of_lt (Nat.lt_trans (mul_lt ha hm) (by decide))] at h
  exact h
theorem p35s {x y : Nat} (h : x + y < 2 ^ 256) : Pure 35 [b8 x, b8 y] (b8 (x + y)) := by
  have h2 := p35 x y
  rw [Nat.mod_eq_of_lt h] at h2
  exact h2
def numR (v : Nat) : Value := .tuple #[wd (v % 2 ^ 128), .bool (decide (v < 2 ^ 128))]


theorem p27 {a m d : Nat} (up : Bool) (ha : a < 2 ^ 128) (hm : m < 2 ^ 64) (hd0 : 0 < d) (hd : d < 2 ^ 64) : Pure 27 [wd a, u64 m, u64 d, .bool up] (numR (sc a m d up)) := by
  have ham : a * m < 2 ^ 256 := Nat.lt_trans (mul_lt ha hm) (by decide)
  have hq : a * m / d < 2 ^ 256 - 1 := Nat.lt_of_le_of_lt (Nat.div_le_self _ _) (Nat.lt_trans (mul_lt ha hm) (by decide))
  have hr : a * m % d < d := Nat.mod_lt _ hd0
  refine pure_of Try.func27 rfl Try.ntmps27 (by kernel_rfl) rfl (by simp) rfl ?_
  refine vc_seq ?_
  refine vc_go (by kernel_rfl) fun K hK => hK _ _ _ ?_
  clear hK K
  refine vc_seq ?_
  refine vc_reg (by kernel_rfl) fun K hK => ?_
  refine run_n (z := false) 1 (fun K' hK' => hK' _ _ _ ?_) (by decide)
  clear hK' K'
  refine run_call (p25 ha) rfl rfl rfl rfl ?_
  refine run_n (z := false) 1 (fun K' hK' => hK' _ _ _ ?_) (by decide)
  clear hK' K'
  refine run_call (p31s ha hm) rfl rfl rfl rfl ?_
  refine run_n (z := false) 2 (fun K' hK' => hK' _ _ _ ?_) (by decide)
  clear hK' K'
  refine run_call (p25s hd) rfl rfl rfl rfl ?_
  refine run_call (p24 ham hd0 (Nat.lt_trans hd (by decide))) rfl rfl rfl rfl ?_
  refine run_n (z := false) 5 (fun K' hK' => hK' _ _ _ ?_) (by decide)
  clear hK' K'
  refine run_set (vex_st32 rfl rfl bits0_length rfl) rfl (by decide) rfl ?_
  refine run_set (vex_st32 rfl rfl bits0_length rfl) rfl (by decide) rfl ?_
  refine run_end (z := false) fun K' hK' => hK' _ _ _ (hK _ _ _ ?_)
  clear hK' K' hK K
  refine vc_seq ?_
  refine vc_seq ?_
  refine vc_reg (by kernel_rfl) fun K hK => ?_
  refine run_n (z := false) 2 (fun K' hK' => hK' _ _ _ ?_) (by decide)
  clear hK' K'
  refine vgo_case 24 rfl (fun g0 => ?_) (fun g0 => ?_)
  · -- split 0 at 2,2 true
    refine run_rd (vex_ld32 rfl rfl) rfl ?_
    refine run_n (z := false) 1 (fun K' hK' => hK' _ _ _ ?_) (by decide)
    clear hK' K'
    refine run_op (vex_ne32 (f := fun k => (a * m % d).testBit k) (g := fun _ => false) (b := decide (a * m % d = 0)) rfl agg0 (bits_zero (by omega))) rfl ?_
    refine run_end (z := false) fun K' hK' => hK' _ _ _ (hK _ _ _ ?_)
    clear hK' K' hK K
    refine vc_cond rfl (fun cu => ?_) (fun cu => ?_)
    · -- cond 0 t28 true
      refine vc_regD [(0, 2)] (by kernel_rfl) (by kernel_rfl) fun K hK => ?_
      refine runD_rd (vex_ld32 rfl rfl) rfl rfl ?_
      refine runD_n (z := false) 1 (fun K' hK' => hK' _ _ _ _ ?_) (by decide)
      clear hK' K'
      refine runD_call (p25s (d := 1) (by decide)) rfl rfl rfl rfl ?_
      refine runD_call (p35s (x := a * m / d) (y := 1) (by omega)) rfl rfl rfl rfl ?_
      refine runD_set (vex_st32 rfl rfl (bl_length _) rfl) rfl (by decide) rfl rfl ?_
      refine runD_end (z := false) fun K' hK' => hK' _ _ _ _ (hK _ _ _ ?_)
      clear hK' K' hK K
      refine vc_seq ?_
      refine vc_reg (by kernel_rfl) fun K hK => ?_
      refine run_rd (vex_ld32 rfl rfl) rfl ?_
      refine run_call (p26 (v := a * m / d + 1) (by omega)) rfl rfl rfl rfl ?_
      refine run_end (z := false) fun K' hK' => hK' _ _ _ (hK _ _ _ ?_)
      clear hK' K' hK K
      refine vc_ret ⟨.inr rfl, ?_⟩
      have hs : sc a m d up = a * m / d + 1 := by 
        simp only [Bool.not_eq_true', decide_eq_false_iff_not] at cu
        rw [sc, if_pos ⟨g0, by omega⟩]
      rw [hs]
      rfl
    · -- cond 0 t28 false
      refine vc_skip ?_
      refine vc_seq ?_
      refine vc_reg (by kernel_rfl) fun K hK => ?_
      refine run_rd (vex_ld32 rfl rfl) rfl ?_
      refine run_call (p26 (v := a * m / d) (by omega)) rfl rfl rfl rfl ?_
      refine run_end (z := false) fun K' hK' => hK' _ _ _ (hK _ _ _ ?_)
      clear hK' K' hK K
      refine vc_ret ⟨.inr rfl, ?_⟩
      have hs : sc a m d up = a * m / d := by 
        simp only [Bool.not_eq_false', decide_eq_true_eq] at cu
        rw [sc, if_neg (fun h => by omega), Nat.add_zero]
      rw [hs]
      rfl
  · -- split 0 at 2,2 false
    refine run_end (z := false) fun K' hK' => hK' _ _ _ (hK _ _ _ ?_)
    clear hK' K' hK K
    refine vc_cond (t := false) rfl (fun h => by cases h) (fun _ => ?_)
    refine vc_skip ?_
    refine vc_seq ?_
    refine vc_reg (by kernel_rfl) fun K hK => ?_
    refine run_rd (vex_ld32 rfl rfl) rfl ?_
    refine run_call (p26 (v := a * m / d) (by omega)) rfl rfl rfl rfl ?_
    refine run_end (z := false) fun K' hK' => hK' _ _ _ (hK _ _ _ ?_)
    clear hK' K' hK K
    refine vc_ret ⟨.inr rfl, ?_⟩
    have hs : sc a m d up = a * m / d := by 
      rw [sc, if_neg (fun h => by rw [g0] at h; exact absurd h.1 (by decide)), Nat.add_zero]
    rw [hs]
    rfl

/-- What MulDiv answers. -/
def mdR (a b d : Nat) (up : Bool) : Value := if d = 0 then .tuple #[u64 0, .int .i64 130] else if sc a b d up < 2 ^ 64 then .tuple #[u64 (sc a b d up), .int .i64 0] else .tuple #[u64 0, .int .i64 131]
theorem mdR_zero {a b d : Nat} {up : Bool} (h : d = 0) : mdR a b d up = .tuple #[u64 0, .int .i64 130] := if_pos h
theorem mdR_ok {a b d : Nat} {up : Bool} (h : 0 < d) (h2 : sc a b d up < 2 ^ 64) : mdR a b d up = .tuple #[u64 (sc a b d up), .int .i64 0] := (if_neg (by omega)).trans (if_pos h2)
theorem mdR_bad {a b d : Nat} {up : Bool} (h : 0 < d) (h2 : ¬ sc a b d up < 2 ^ 64) : mdR a b d up = .tuple #[u64 0, .int .i64 131] := (if_neg (by omega)).trans (if_neg h2)
theorem mdR_plain (a b d : Nat) (up : Bool) : plain (mdR a b d up) = true := by
  unfold mdR
  repeat' split
  all_goals rfl
theorem p28 {a b d : Nat} (up : Bool) (ha : a < 2 ^ 64) (hb : b < 2 ^ 64) (hd : d < 2 ^ 64) : Pure 28 [u64 a, u64 b, u64 d, .bool up] (mdR a b d up) := by
  have h80 := p80 up (Nat.lt_trans ha (by decide)) hb hd
  obtain ⟨x, e, hs, hx⟩ := scR_res a b d up
  rw [hs] at h80
  refine pure_of Try.func28 rfl Try.ntmps28 (by kernel_rfl) rfl (by simp) (mdR_plain _ _ _ _) ?_
  refine vc_seq ?_
  refine vc_go (by kernel_rfl) fun K hK => hK _ _ _ ?_
  clear hK K
  refine vc_seq ?_
  refine vc_reg (by kernel_rfl) fun K hK => ?_
  refine run_n (z := false) 1 (fun K' hK' => hK' _ _ _ ?_) (by decide)
  clear hK' K'
  refine run_call (p34w ha) rfl rfl rfl rfl ?_
  refine run_n (z := false) 3 (fun K' hK' => hK' _ _ _ ?_) (by decide)
  clear hK' K'
  refine run_call (h80) rfl rfl rfl rfl ?_
  refine run_end (z := false) fun K' hK' => hK' _ _ _ (hK _ _ _ ?_)
  clear hK' K' hK K
  refine vc_seq ?_
  refine vc_block ?_
  refine vc_seq ?_
  refine vc_go (by kernel_rfl) fun K hK => hK _ _ _ ?_
  clear hK K
  refine vc_cond rfl (fun ce => ?_) (fun ce => ?_)
  · -- cond 0 t21 true
    refine vc_seq ?_
    refine vc_go (by kernel_rfl) fun K hK => hK _ _ _ ?_
    clear hK K
    refine vc_ret ⟨.inr rfl, ?_⟩
    simp only [bne_iff_ne, ne_eq, bne_eq_false_iff_eq, decide_eq_true_eq, decide_eq_false_iff_not] at *
    rcases hx with ⟨h1, h2, h3⟩ | ⟨h1, h4, h2, h3⟩ | ⟨h1, h4, h2, h3⟩
    · rw [mdR_zero h1, h3.symm]; rfl
    · exact absurd h3 ce
    · rw [mdR_bad h1 (by omega), h3.symm]; rfl
  · -- cond 0 t21 false
    refine vc_seq ?_
    refine vc_go (by kernel_rfl) fun K hK => hK _ _ _ ?_
    clear hK K
    refine vc_cond rfl (fun ch => ?_) (fun ch => ?_)
    · -- cond 1 t25 true
      refine vc_seq ?_
      refine vc_go (by kernel_rfl) fun K hK => hK _ _ _ ?_
      clear hK K
      refine vc_ret ⟨.inr rfl, ?_⟩
      simp only [bne_iff_ne, ne_eq, bne_eq_false_iff_eq, decide_eq_true_eq, decide_eq_false_iff_not] at *
      have hb2 : 0 < d ∧ ¬ sc a b d up < 2 ^ 64 := by omega
      rw [mdR_bad hb2.1 hb2.2]; rfl
    · -- cond 1 t25 false
      refine vc_skip ?_
      refine vc_seq ?_
      refine vc_go (by kernel_rfl) fun K hK => hK _ _ _ ?_
      clear hK K
      refine vc_ret ⟨.inr rfl, ?_⟩
      simp only [bne_iff_ne, ne_eq, bne_eq_false_iff_eq, decide_eq_true_eq, decide_eq_false_iff_not] at *
      have hb2 : 0 < d ∧ sc a b d up < 2 ^ 64 ∧ sc a b d up = x % 2 ^ 64 := by omega
      rw [mdR_ok hb2.1 hb2.2.1, hb2.2.2]; rfl
end Go.Proofs.Ytdfkcijholopoaa.Vm
