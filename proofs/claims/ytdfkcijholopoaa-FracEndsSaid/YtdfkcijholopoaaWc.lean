/- Layer wide: a number's quarters; a product. -/
import Derived.Test.YtdfkcijholopoaaWb
namespace Go.Proofs.Ytdfkcijholopoaa.Vm
open Go Go.RowKit
set_option maxRecDepth 10000
set_option linter.unusedSimpArgs false


theorem fin_q {x0 x1 x2 x3 x4 x5 x6 : Int} (v : Nat) (h0 : x0 = (lb v 0 : Int)) (h1 : x1 = (lb v 1 : Int)) (h2 : x2 = (lb v 2 : Int)) (h3 : x3 = (lb v 3 : Int)) (h4 : x4 = (lb v 4 : Int)) (h5 : x5 = (lb v 5 : Int)) (h6 : x6 = (lb v 6 : Int)) :
    some (Value.agg #[.int .u64 x0, .int .u64 x1, .int .u64 x2, .int .u64 x3, .int .u64 x4, .int .u64 x5, .int .u64 x6]) = some (q7 v) := by subst h0 h1 h2 h3 h4 h5 h6; rfl
theorem shr32 (n : Nat) : ((n : Int)).fdiv (2 ^ (min (32 : Int).toNat IntKind.u64.bits)) = ((n / 2 ^ 32 : Nat) : Int) := shr_nat n 32 (by decide)
theorem p77 (v : Nat) (hv : v < 2 ^ 128) : Pure 77 [wd v] (q7 v) := by
  refine pure_of Try.func77 rfl Try.ntmps77 (by kernel_rfl) rfl (by simp) rfl ?_
  refine vc_seq ?_
  refine vc_go (by kernel_rfl) fun K hK => hK _ _ _ ?_
  clear hK K
  refine vc_seq ?_
  refine vc_go (by kernel_rfl) fun K hK => hK _ _ _ ?_
  clear hK K
  refine vc_ret ⟨.inr rfl, ?_⟩
  refine Eq.trans (b := some (.agg #[.int .u64 _, .int .u64 _, .int .u64 _, .int .u64 _, .int .u64 _, .int .u64 _, .int .u64 _])) rfl ?_
  refine fin_q v ?_ ?_ ?_ ?_ ?_ ?_ ?_
  · rw [and_low _ (by omega)]; simp only [lb] <;> omega
  · refine (shr32 _).trans ?_; simp only [lb] <;> omega
  · rw [and_low _ (by omega)]; simp only [lb] <;> omega
  · refine (shr32 _).trans ?_; simp only [lb] <;> omega
  · simp only [lb] <;> omega
  · simp only [lb] <;> omega
  · simp only [lb] <;> omega

theorem or_pair {a b : Nat} (ha : a < 2 ^ 32) (hb : b < 2 ^ 32) : IntKind.u64.wrap ((BitVec.ofInt IntKind.u64.bits (IntKind.u64.wrap ((a : Int) * 2 ^ (min (32 : Int).toNat IntKind.u64.bits))) ||| BitVec.ofInt IntKind.u64.bits (b : Int)).toNat : Int) = ((a * 2 ^ 32 + b : Nat) : Int) := by
  have h : IntKind.u64.wrap ((a : Int) * 2 ^ (min (32 : Int).toNat IntKind.u64.bits)) = ((a * 2 ^ 32 : Nat) : Int) := by
    have : min (32 : Int).toNat IntKind.u64.bits = 32 := by decide
    rw [this, wrap64]
    omega
  rw [h, or_nat _ _ (by omega) (by omega), Nat.mul_comm, Nat.two_pow_add_eq_or_of_lt hb]
theorem fin_wb {v : Nat} {x y : Int} {b : Bool} (hx : x = ((v % 2 ^ 128 / 2 ^ 64 : Nat) : Int)) (hy : y = ((v % 2 ^ 128 % 2 ^ 64 : Nat) : Int)) (hb : b = decide (v < 2 ^ 128)) :
    some (Value.tuple #[.agg #[.int .u64 x, .int .u64 y], .bool b]) = some (.tuple #[wd (v % 2 ^ 128), .bool (decide (v < 2 ^ 128))]) := by subst hx hy hb; rfl
theorem p79 (v : Nat) (hv : v < 2 ^ 224) : Pure 79 [q7 v] (.tuple #[wd (v % 2 ^ 128), .bool (decide (v < 2 ^ 128))]) := by
  refine pure_of Try.func79 rfl Try.ntmps79 (by kernel_rfl) rfl (by simp) rfl ?_
  refine vc_seq ?_
  refine vc_go (by kernel_rfl) fun K hK => hK _ _ _ ?_
  clear hK K
  refine vc_seq ?_
  refine vc_regD [(23, 26)] (by kernel_rfl) (by kernel_rfl) fun K hK => ?_
  refine runD_n (z := false) 17 (fun K' hK' => hK' _ _ _ _ ?_) (by decide)
  clear hK' K'
  refine W_case 20 rfl (fun g0 => ?_) (fun g0 => ?_)
  · -- split 0 at 1,17 true
    refine runD_n (z := false) 5 (fun K' hK' => hK' _ _ _ _ ?_) (by decide)
    clear hK' K'
    refine W_case 25 rfl (fun g1 => ?_) (fun g1 => ?_)
    · -- split 1 at 1,22 true
      refine runD_end (z := false) fun K' hK' => hK' _ _ _ _ (hK _ _ _ ?_)
      clear hK' K' hK K
      refine vc_ret ⟨.inr rfl, ?_⟩
      refine Eq.trans (b := some (.tuple #[.agg #[.int .u64 _, .int .u64 _], .bool _])) rfl ?_
      simp only [decide_eq_true_eq, decide_eq_false_iff_not, beq_iff_eq, beq_eq_false_iff_ne] at *
      refine fin_wb ?_ ?_ ?_
      · rw [or_pair (lb_lt _ _) (lb_lt _ _)]; simp only [lb] <;> omega
      · rw [or_pair (lb_lt _ _) (lb_lt _ _)]; simp only [lb] <;> omega
      · simp only [lb] at *; rw [Bool.eq_iff_iff]; simp only [decide_eq_true_eq, beq_iff_eq, Bool.false_eq_true, reduceCtorEq, true_iff, false_iff, Bool.true_eq_false, iff_false, iff_true] at * <;> omega
    · -- split 1 at 1,22 false
      refine runD_end (z := false) fun K' hK' => hK' _ _ _ _ (hK _ _ _ ?_)
      clear hK' K' hK K
      refine vc_ret ⟨.inr rfl, ?_⟩
      refine Eq.trans (b := some (.tuple #[.agg #[.int .u64 _, .int .u64 _], .bool _])) rfl ?_
      simp only [decide_eq_true_eq, decide_eq_false_iff_not, beq_iff_eq, beq_eq_false_iff_ne] at *
      refine fin_wb ?_ ?_ ?_
      · rw [or_pair (lb_lt _ _) (lb_lt _ _)]; simp only [lb] <;> omega
      · rw [or_pair (lb_lt _ _) (lb_lt _ _)]; simp only [lb] <;> omega
      · simp only [lb] at *; rw [Bool.eq_iff_iff]; simp only [decide_eq_true_eq, beq_iff_eq, Bool.false_eq_true, reduceCtorEq, true_iff, false_iff, Bool.true_eq_false, iff_false, iff_true] at * <;> omega
  · -- split 0 at 1,17 false
    refine runD_n (z := false) 5 (fun K' hK' => hK' _ _ _ _ ?_) (by decide)
    clear hK' K'
    refine W_case 25 rfl (fun g2 => ?_) (fun g2 => ?_)
    · -- split 2 at 1,22 true
      refine runD_end (z := false) fun K' hK' => hK' _ _ _ _ (hK _ _ _ ?_)
      clear hK' K' hK K
      refine vc_ret ⟨.inr rfl, ?_⟩
      refine Eq.trans (b := some (.tuple #[.agg #[.int .u64 _, .int .u64 _], .bool _])) rfl ?_
      simp only [decide_eq_true_eq, decide_eq_false_iff_not, beq_iff_eq, beq_eq_false_iff_ne] at *
      refine fin_wb ?_ ?_ ?_
      · rw [or_pair (lb_lt _ _) (lb_lt _ _)]; simp only [lb] <;> omega
      · rw [or_pair (lb_lt _ _) (lb_lt _ _)]; simp only [lb] <;> omega
      · simp only [lb] at *; rw [Bool.eq_iff_iff]; simp only [decide_eq_true_eq, beq_iff_eq, Bool.false_eq_true, reduceCtorEq, true_iff, false_iff, Bool.true_eq_false, iff_false, iff_true] at * <;> omega
    · -- split 2 at 1,22 false
      refine runD_end (z := false) fun K' hK' => hK' _ _ _ _ (hK _ _ _ ?_)
      clear hK' K' hK K
      refine vc_ret ⟨.inr rfl, ?_⟩
      refine Eq.trans (b := some (.tuple #[.agg #[.int .u64 _, .int .u64 _], .bool _])) rfl ?_
      simp only [decide_eq_true_eq, decide_eq_false_iff_not, beq_iff_eq, beq_eq_false_iff_ne] at *
      refine fin_wb ?_ ?_ ?_
      · rw [or_pair (lb_lt _ _) (lb_lt _ _)]; simp only [lb] <;> omega
      · rw [or_pair (lb_lt _ _) (lb_lt _ _)]; simp only [lb] <;> omega
      · simp only [lb] at *; rw [Bool.eq_iff_iff]; simp only [decide_eq_true_eq, beq_iff_eq, Bool.false_eq_true, reduceCtorEq, true_iff, false_iff, Bool.true_eq_false, iff_false, iff_true] at * <;> omega
end Go.Proofs.Ytdfkcijholopoaa.Vm
