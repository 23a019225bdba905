/- Layer wide: how numbers stand to one another. -/
import Derived.Test.YtdfkcijholopoaaVm17
namespace Go.Proofs.Ytdfkcijholopoaa.Vm
open Go Go.RowKit
set_option maxRecDepth 10000
set_option linter.unusedSimpArgs false

theorem p117 (x : Int) : Pure 117 [.int .u64 x] (.bool false) := by
  have h : Pure 117 [.int .u64 x] (.bool (x != x)) := by
    refine pure_of Try.func117 rfl Try.ntmps117 (by kernel_rfl) rfl (by simp) rfl ?_
    repeat (refine vc_seq ?_; refine vc_go (by kernel_rfl) fun K hK => hK _ _ _ ?_)
    exact vc_ret ⟨.inr rfl, rfl⟩
  simpa using h

def cmpI (x y : Int) : Int := if x < y then -1 else if x > y then 1 else 0
theorem p83 (x y : Int) : Pure 83 [.int .u64 x, .int .u64 y] (.int .i64 (cmpI x y)) := by
  refine pure_of Try.func83 rfl Try.ntmps83 (by kernel_rfl) rfl (by simp) rfl ?_
  refine vc_seq ?_
  refine vc_go (by kernel_rfl) fun K hK => hK _ _ _ ?_
  refine vc_seq ?_
  refine vc_reg (by kernel_rfl) fun K hK => ?_
  refine run_n (z := false) 1 (fun K' hK' => hK' _ _ _ ?_) (by decide)
  refine run_call (p117 _) rfl rfl rfl rfl ?_
  refine run_end (z := false) fun K' hK' => hK' _ _ _ (hK _ _ _ ?_)
  refine vc_seq ?_
  refine vc_reg (by kernel_rfl) fun K hK => ?_
  refine run_n (z := false) 1 (fun K' hK' => hK' _ _ _ ?_) (by decide)
  refine run_call (p117 _) rfl rfl rfl rfl ?_
  refine run_end (z := false) fun K' hK' => hK' _ _ _ (hK _ _ _ ?_)
  refine vc_seq ?_
  refine vc_seq ?_
  refine vc_go (by kernel_rfl) fun K hK => hK _ _ _ ?_
  refine vc_cond (t := false) rfl (fun h => by cases h) (fun _ => ?_)
  refine vc_skip ?_
  refine vc_seq ?_
  refine vc_seq ?_
  refine vc_go (by kernel_rfl) fun K hK => hK _ _ _ ?_
  refine vc_cond (t := false) rfl (fun h => by cases h) (fun _ => ?_)
  refine vc_skip ?_
  refine vc_seq ?_
  refine vc_seq ?_
  refine vc_go (by kernel_rfl) fun K hK => hK _ _ _ ?_
  refine vc_cond (t := decide (x < y)) rfl (fun h => ?_) (fun h => ?_)
  · refine vc_seq ?_
    refine vc_go (by kernel_rfl) fun K hK => hK _ _ _ ?_
    refine vc_ret ⟨.inr rfl, ?_⟩
    rw [show cmpI x y = -1 from if_pos (of_decide_eq_true h)]
    rfl
  · refine vc_skip ?_
    refine vc_seq ?_
    refine vc_seq ?_
    refine vc_go (by kernel_rfl) fun K hK => hK _ _ _ ?_
    refine vc_cond (t := decide (x > y)) rfl (fun h' => ?_) (fun h' => ?_)
    · refine vc_seq ?_
      refine vc_go (by kernel_rfl) fun K hK => hK _ _ _ ?_
      refine vc_ret ⟨.inr rfl, ?_⟩
      rw [show cmpI x y = 1 from (if_neg (of_decide_eq_false h)).trans (if_pos (of_decide_eq_true h'))]
      rfl
    · refine vc_skip ?_
      refine vc_seq ?_
      refine vc_go (by kernel_rfl) fun K hK => hK _ _ _ ?_
      refine vc_ret ⟨.inr rfl, ?_⟩
      rw [show cmpI x y = 0 from (if_neg (of_decide_eq_false h)).trans (if_neg (of_decide_eq_false h'))]
      rfl

def orI (x y : Int) : Int := if x = 0 then y else x
theorem p82 (x y : Int) : RO 82 [.slice (some ⟨0, 0, none⟩) 2 2] [(0, [.int .i64 x, .int .i64 y])] (.int .i64 (orI x y)) := by
  refine ro_of _ 1 Try.func82 rfl Try.ntmps82 (by kernel_rfl) (by simp) rfl rfl (by simp) (by simp [plainL, plain]) ?_
  refine vc_seq ?_
  refine vc_go (by kernel_rfl) fun K hK => hK _ _ _ ?_
  clear hK K
  refine vc_seq ?_
  refine vc_go (by kernel_rfl) fun K hK => hK _ _ _ ?_
  clear hK K
  refine vc_seq ?_
  refine vc_seq ?_
  refine vc_go (by kernel_rfl) fun K hK => hK _ _ _ ?_
  clear hK K
  refine vc_block ?_
  refine vc_rounds 3 ?_
  refine vc_seq ?_
  refine vc_go (by kernel_rfl) fun K hK => hK _ _ _ ?_
  clear hK K
  refine vc_seq ?_
  refine vc_cond (t := true) rfl (fun _ => ?_) (fun h => by cases h)
  refine vc_skip ?_
  refine vc_seq ?_
  refine vc_block ?_
  refine vc_seq ?_
  refine vc_go (by kernel_rfl) fun K hK => hK _ _ _ ?_
  clear hK K
  refine vc_seq ?_
  refine vc_go (by kernel_rfl) fun K hK => hK _ _ _ ?_
  clear hK K
  refine vc_cond rfl (fun c1 => ?_) (fun c1 => ?_)
  · -- cond 1 t14 true
    refine vc_seq ?_
    refine vc_go (by kernel_rfl) fun K hK => hK _ _ _ ?_
    clear hK K
    refine vc_ret ⟨.inr rfl, ?_⟩
    have c1' : x ≠ 0 := by simpa using c1
    rw [show orI x y = x from if_neg c1']
    rfl
  · -- cond 1 t14 false
    refine vc_skip ?_
    refine vc_go (by kernel_rfl) fun K hK => hK _ _ _ ?_
    clear hK K
    refine vc_seq ?_
    refine vc_go (by kernel_rfl) fun K hK => hK _ _ _ ?_
    clear hK K
    refine vc_seq ?_
    refine vc_cond (t := true) rfl (fun _ => ?_) (fun h => by cases h)
    refine vc_skip ?_
    refine vc_seq ?_
    refine vc_block ?_
    refine vc_seq ?_
    refine vc_go (by kernel_rfl) fun K hK => hK _ _ _ ?_
    clear hK K
    refine vc_seq ?_
    refine vc_go (by kernel_rfl) fun K hK => hK _ _ _ ?_
    clear hK K
    refine vc_cond rfl (fun c3 => ?_) (fun c3 => ?_)
    · -- cond 3 t14 true
      refine vc_seq ?_
      refine vc_go (by kernel_rfl) fun K hK => hK _ _ _ ?_
      clear hK K
      refine vc_ret ⟨.inr rfl, ?_⟩
      have c1' : x = 0 := by simpa using c1
      rw [show orI x y = y from if_pos c1']
      rfl
    · -- cond 3 t14 false
      refine vc_skip ?_
      refine vc_go (by kernel_rfl) fun K hK => hK _ _ _ ?_
      clear hK K
      refine vc_seq ?_
      refine vc_go (by kernel_rfl) fun K hK => hK _ _ _ ?_
      clear hK K
      refine vc_seq ?_
      refine vc_cond (t := false) rfl (fun h => by cases h) (fun _ => ?_)
      refine vc_exit ?_
      refine vc_seq ?_
      refine vc_go (by kernel_rfl) fun K hK => hK _ _ _ ?_
      clear hK K
      refine vc_ret ⟨.inr rfl, ?_⟩
      have c1' : x = 0 := by simpa using c1
      have c3' : y = 0 := by simpa using c3
      rw [show orI x y = y from if_pos c1', c3']
      rfl

def cmpW (a b : Nat) : Int := if a < b then -1 else if a = b then 0 else 1
theorem p29r (x y x' y' : Int) : Pure 29 [.agg #[.int .u64 x, .int .u64 y], .agg #[.int .u64 x', .int .u64 y']] (.int .i64 (orI (cmpI x x') (cmpI y y'))) := by
  refine pure_of Try.func29 rfl Try.ntmps29 (by kernel_rfl) rfl (by simp) rfl ?_
  refine vc_seq ?_
  refine vc_go (by kernel_rfl) fun K hK => hK _ _ _ ?_
  clear hK K
  refine vc_seq ?_
  refine vc_regD [(4, 6), (4, 8)] (by kernel_rfl) (by kernel_rfl) fun K hK => ?_
  refine runD_n (z := false) 4 (fun K' hK' => hK' _ _ _ _ ?_) (by decide)
  clear hK' K'
  refine runD_call (p83 _ _) rfl rfl rfl rfl ?_
  refine runD_n (z := false) 4 (fun K' hK' => hK' _ _ _ _ ?_) (by decide)
  clear hK' K'
  refine runD_call (p83 _ _) rfl rfl rfl rfl ?_
  refine runD_n (z := false) 1 (fun K' hK' => hK' _ _ _ _ ?_) (by decide)
  clear hK' K'
  refine runD_ro (fun _ => (12, 0)) (p82 (cmpI x x') (cmpI y y')) ?_ rfl rfl rfl rfl rfl ?_
  · intro x hx
    simp only [List.mem_singleton] at hx
    subst hx
    exact ⟨_, _, _, rfl, fun i v hv => by simpa using hv⟩
  refine runD_end (z := false) fun K' hK' => hK' _ _ _ _ (hK _ _ _ ?_)
  clear hK' K' hK K
  exact vc_ret ⟨.inr rfl, rfl⟩

theorem cmp_wd (a b : Nat) : orI (cmpI ((a / 2 ^ 64 : Nat) : Int) ((b / 2 ^ 64 : Nat) : Int)) (cmpI ((a % 2 ^ 64 : Nat) : Int) ((b % 2 ^ 64 : Nat) : Int)) = cmpW a b := by
  unfold orI cmpI cmpW
  repeat' split
  all_goals omega
theorem p29 (a b : Nat) : Pure 29 [wd a, wd b] (.int .i64 (cmpW a b)) := by
  have := p29r ((a / 2 ^ 64 : Nat) : Int) ((a % 2 ^ 64 : Nat) : Int) ((b / 2 ^ 64 : Nat) : Int) ((b % 2 ^ 64 : Nat) : Int)
  rw [cmp_wd] at this
  exact this
theorem cmpW_lt {a b : Nat} : cmpW a b < 0 ↔ a < b := by unfold cmpW; repeat' split <;> omega
theorem cmpW_eq {a b : Nat} : cmpW a b = 0 ↔ a = b := by unfold cmpW; repeat' split <;> omega
theorem cmpW_gt {a b : Nat} : 0 < cmpW a b ↔ b < a := by unfold cmpW; repeat' split <;> omega
theorem cmpW_neg (a b : Nat) : cmpW a b = - cmpW b a := by unfold cmpW; repeat' split <;> omega
theorem p34 (x : Int) : Pure 34 [.int .u64 x] (.agg #[.int .u64 0, .int .u64 x]) := by
  refine pure_of Try.func34 rfl Try.ntmps34 (by kernel_rfl) rfl (by simp) rfl ?_
  refine vc_seq ?_
  refine vc_go (by kernel_rfl) fun K hK => hK _ _ _ ?_
  clear hK K
  refine vc_seq ?_
  refine vc_go (by kernel_rfl) fun K hK => hK _ _ _ ?_
  clear hK K
  exact vc_ret ⟨.inr rfl, rfl⟩

def resW (v : Nat) (e : Int) : Value := .tuple #[wd v, .int .i64 e]
theorem wd_of {x y : Int} {v : Nat} (hx : x = ((v / 2 ^ 64 : Nat) : Int)) (hy : y = ((v % 2 ^ 64 : Nat) : Int)) : (Value.agg #[.int .u64 x, .int .u64 y]) = wd v := by subst hx hy; rfl
theorem fin_we {x y e : Int} {V : Value} (v : Nat) (hx : x = ((v / 2 ^ 64 : Nat) : Int)) (hy : y = ((v % 2 ^ 64 : Nat) : Int)) (hV : V = resW v e) : some (Value.tuple #[.agg #[.int .u64 x, .int .u64 y], .int .i64 e]) = some V := by subst hx hy hV; rfl
theorem wrap64 (n : Int) : IntKind.u64.wrap n = n % 2 ^ 64 := by
  simp [IntKind.wrap, IntKind.bits, IntKind.signed]


theorem cmp_neg {x x' y y' : Int} : orI (cmpI x x') (cmpI y y') < 0 ↔ x < x' ∨ (x = x' ∧ y < y') := by
  unfold orI cmpI
  repeat' split
  all_goals omega
theorem p30 (a b : Nat) (ha : a < 2 ^ 128) (hb : b < 2 ^ 128) : Pure 30 [wd a, wd b] (if a + b < 2 ^ 128 then resW (a + b) 0 else resW 0 131) := by
  refine pure_of Try.func30 rfl Try.ntmps30 (by kernel_rfl) rfl (by simp) (by split <;> rfl) ?_
  refine vc_seq ?_
  refine vc_go (by kernel_rfl) fun K hK => hK _ _ _ ?_
  clear hK K
  refine vc_seq ?_
  refine vc_go (by kernel_rfl) fun K hK => hK _ _ _ ?_
  clear hK K
  refine vc_seq ?_
  refine vc_seq ?_
  refine vc_go (by kernel_rfl) fun K hK => hK _ _ _ ?_
  clear hK K
  refine vc_cond rfl (fun c0 => ?_) (fun c0 => ?_)
  · -- cond 0 t22 true
    refine vc_go (by kernel_rfl) fun K hK => hK _ _ _ ?_
    clear hK K
    refine vc_seq ?_
    refine vc_seq ?_
    refine vc_reg (by kernel_rfl) fun K hK => ?_
    refine run_n (z := false) 2 (fun K' hK' => hK' _ _ _ ?_) (by decide)
    clear hK' K'
    refine run_call (p29r _ _ _ _) rfl rfl rfl rfl ?_
    refine run_n (z := false) 2 (fun K' hK' => hK' _ _ _ ?_) (by decide)
    clear hK' K'
    refine vgo_case 31 rfl (fun g0 => ?_) (fun g0 => ?_)
    · -- split 0 at 4,5 true
      refine run_end (z := false) fun K' hK' => hK' _ _ _ (hK _ _ _ ?_)
      clear hK' K' hK K
      refine vc_cond rfl (fun c1 => ?_) (fun c1 => ?_)
      · -- cond 1 t37 true
        refine vc_seq ?_
        refine vc_go (by kernel_rfl) fun K hK => hK _ _ _ ?_
        clear hK K
        refine vc_ret ⟨.inr rfl, ?_⟩
        refine Eq.trans (b := some (.tuple #[.agg #[.int .u64 _, .int .u64 _], .int .i64 _])) rfl ?_
        simp only [decide_eq_true_eq, decide_eq_false_iff_not, wrap64, cmp_neg] at *
        refine fin_we 0 rfl rfl (if_neg ?_)
        omega
      · -- cond 1 t37 false
        refine vc_skip ?_
        refine vc_seq ?_
        refine vc_go (by kernel_rfl) fun K hK => hK _ _ _ ?_
        clear hK K
        refine vc_ret ⟨.inr rfl, ?_⟩
        cases c1
    · -- split 0 at 4,5 false
      refine run_end (z := false) fun K' hK' => hK' _ _ _ (hK _ _ _ ?_)
      clear hK' K' hK K
      refine vc_cond rfl (fun c2 => ?_) (fun c2 => ?_)
      · -- cond 2 t37 true
        refine vc_seq ?_
        refine vc_go (by kernel_rfl) fun K hK => hK _ _ _ ?_
        clear hK K
        refine vc_ret ⟨.inr rfl, ?_⟩
        refine Eq.trans (b := some (.tuple #[.agg #[.int .u64 _, .int .u64 _], .int .i64 _])) rfl ?_
        simp only [decide_eq_true_eq, decide_eq_false_iff_not, wrap64, cmp_neg] at *
        refine fin_we 0 rfl rfl (if_neg ?_)
        omega
      · -- cond 2 t37 false
        refine vc_skip ?_
        refine vc_seq ?_
        refine vc_go (by kernel_rfl) fun K hK => hK _ _ _ ?_
        clear hK K
        refine vc_ret ⟨.inr rfl, ?_⟩
        refine Eq.trans (b := some (.tuple #[.agg #[.int .u64 _, .int .u64 _], .int .i64 _])) rfl ?_
        simp only [decide_eq_true_eq, decide_eq_false_iff_not, wrap64, cmp_neg] at *
        refine fin_we (a + b) ?_ ?_ (if_pos ?_) <;> omega
  · -- cond 0 t22 false
    refine vc_skip ?_
    refine vc_seq ?_
    refine vc_seq ?_
    refine vc_reg (by kernel_rfl) fun K hK => ?_
    refine run_n (z := false) 2 (fun K' hK' => hK' _ _ _ ?_) (by decide)
    clear hK' K'
    refine run_call (p29r _ _ _ _) rfl rfl rfl rfl ?_
    refine run_n (z := false) 2 (fun K' hK' => hK' _ _ _ ?_) (by decide)
    clear hK' K'
    refine vgo_case 31 rfl (fun g1 => ?_) (fun g1 => ?_)
    · -- split 1 at 4,5 true
      refine run_end (z := false) fun K' hK' => hK' _ _ _ (hK _ _ _ ?_)
      clear hK' K' hK K
      refine vc_cond rfl (fun c3 => ?_) (fun c3 => ?_)
      · -- cond 3 t37 true
        refine vc_seq ?_
        refine vc_go (by kernel_rfl) fun K hK => hK _ _ _ ?_
        clear hK K
        refine vc_ret ⟨.inr rfl, ?_⟩
        refine Eq.trans (b := some (.tuple #[.agg #[.int .u64 _, .int .u64 _], .int .i64 _])) rfl ?_
        simp only [decide_eq_true_eq, decide_eq_false_iff_not, wrap64, cmp_neg] at *
        refine fin_we 0 rfl rfl (if_neg ?_)
        omega
      · -- cond 3 t37 false
        refine vc_skip ?_
        refine vc_seq ?_
        refine vc_go (by kernel_rfl) fun K hK => hK _ _ _ ?_
        clear hK K
        refine vc_ret ⟨.inr rfl, ?_⟩
        cases c3
    · -- split 1 at 4,5 false
      refine run_end (z := false) fun K' hK' => hK' _ _ _ (hK _ _ _ ?_)
      clear hK' K' hK K
      refine vc_cond rfl (fun c4 => ?_) (fun c4 => ?_)
      · -- cond 4 t37 true
        refine vc_seq ?_
        refine vc_go (by kernel_rfl) fun K hK => hK _ _ _ ?_
        clear hK K
        refine vc_ret ⟨.inr rfl, ?_⟩
        refine Eq.trans (b := some (.tuple #[.agg #[.int .u64 _, .int .u64 _], .int .i64 _])) rfl ?_
        simp only [decide_eq_true_eq, decide_eq_false_iff_not, wrap64, cmp_neg] at *
        refine fin_we 0 rfl rfl (if_neg ?_)
        omega
      · -- cond 4 t37 false
        refine vc_skip ?_
        refine vc_seq ?_
        refine vc_go (by kernel_rfl) fun K hK => hK _ _ _ ?_
        clear hK K
        refine vc_ret ⟨.inr rfl, ?_⟩
        refine Eq.trans (b := some (.tuple #[.agg #[.int .u64 _, .int .u64 _], .int .i64 _])) rfl ?_
        simp only [decide_eq_true_eq, decide_eq_false_iff_not, wrap64, cmp_neg] at *
        refine fin_we (a + b) ?_ ?_ (if_pos ?_) <;> omega

theorem p36 (a b : Nat) (ha : a < 2 ^ 128) (hb : b < 2 ^ 128) : Pure 36 [wd a, wd b] (if a < b then resW 0 131 else resW (a - b) 0) := by
  refine pure_of Try.func36 rfl Try.ntmps36 (by kernel_rfl) rfl (by simp) (by split <;> rfl) ?_
  refine vc_seq ?_
  refine vc_go (by kernel_rfl) fun K hK => hK _ _ _ ?_
  clear hK K
  refine vc_seq ?_
  refine vc_seq ?_
  refine vc_reg (by kernel_rfl) fun K hK => ?_
  refine run_n (z := false) 2 (fun K' hK' => hK' _ _ _ ?_) (by decide)
  clear hK' K'
  refine run_call (p29r _ _ _ _) rfl rfl rfl rfl ?_
  refine run_end (z := false) fun K' hK' => hK' _ _ _ (hK _ _ _ ?_)
  clear hK' K' hK K
  refine vc_cond rfl (fun c0 => ?_) (fun c0 => ?_)
  · -- cond 0 t10 true
    refine vc_seq ?_
    refine vc_go (by kernel_rfl) fun K hK => hK _ _ _ ?_
    clear hK K
    refine vc_ret ⟨.inr rfl, ?_⟩
    refine Eq.trans (b := some (.tuple #[.agg #[.int .u64 _, .int .u64 _], .int .i64 _])) rfl ?_
    simp only [decide_eq_true_eq, decide_eq_false_iff_not, wrap64, cmp_neg] at *
    refine fin_we 0 rfl rfl (if_pos ?_)
    omega
  · -- cond 0 t10 false
    refine vc_skip ?_
    refine vc_seq ?_
    refine vc_go (by kernel_rfl) fun K hK => hK _ _ _ ?_
    clear hK K
    refine vc_seq ?_
    refine vc_seq ?_
    refine vc_go (by kernel_rfl) fun K hK => hK _ _ _ ?_
    clear hK K
    refine vc_cond rfl (fun c1 => ?_) (fun c1 => ?_)
    · -- cond 1 t27 true
      refine vc_go (by kernel_rfl) fun K hK => hK _ _ _ ?_
      clear hK K
      refine vc_seq ?_
      refine vc_go (by kernel_rfl) fun K hK => hK _ _ _ ?_
      clear hK K
      refine vc_ret ⟨.inr rfl, ?_⟩
      refine Eq.trans (b := some (.tuple #[.agg #[.int .u64 _, .int .u64 _], .int .i64 _])) rfl ?_
      simp only [decide_eq_true_eq, decide_eq_false_iff_not, wrap64, cmp_neg] at *
      refine fin_we (a - b) ?_ ?_ (if_neg ?_) <;> omega
    · -- cond 1 t27 false
      refine vc_skip ?_
      refine vc_seq ?_
      refine vc_go (by kernel_rfl) fun K hK => hK _ _ _ ?_
      clear hK K
      refine vc_ret ⟨.inr rfl, ?_⟩
      refine Eq.trans (b := some (.tuple #[.agg #[.int .u64 _, .int .u64 _], .int .i64 _])) rfl ?_
      simp only [decide_eq_true_eq, decide_eq_false_iff_not, wrap64, cmp_neg] at *
      refine fin_we (a - b) ?_ ?_ (if_neg ?_) <;> omega
end Go.Proofs.Ytdfkcijholopoaa.Vm
