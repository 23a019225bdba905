/- Layer wide: products and quotients of numbers. -/
import Derived.Test.YtdfkcijholopoaaWe
namespace Go.Proofs.Ytdfkcijholopoaa.Vm
open Go Go.RowKit
set_option maxRecDepth 10000
set_option linter.unusedSimpArgs false
set_option linter.unusedVariables false

theorem p34w {a : Nat} (ha : a < 2 ^ 64) : Pure 34 [u64 a] (wd a) := by
  have h := p34 (a : Int)
  have e : Value.agg #[.int .u64 0, .int .u64 (a : Int)] = wd a := by
    unfold wd
    rw [Nat.div_eq_of_lt ha, Nat.mod_eq_of_lt ha]
    rfl
  rw [e] at h
  exact h
theorem wd_small {a : Nat} (ha : a < 2 ^ 64) : wd a = .agg #[.int .u64 0, .int .u64 (a : Int)] := by
  unfold wd
  rw [Nat.div_eq_of_lt ha, Nat.mod_eq_of_lt ha]
  rfl
theorem mul_lt {a b A B : Nat} (ha : a < A) (hb : b < B) : a * b < A * B := by
  refine Nat.lt_of_le_of_lt (Nat.mul_le_mul_right b (Nat.le_of_lt ha)) (Nat.mul_lt_mul_of_pos_left hb (by omega))
theorem p84m {v m : Nat} (hv : v < 2 ^ 128) (hm : m < 2 ^ 64) : Pure 84 [q7 v, u64 m, u64 0] (q7 (v * m)) := by
  have h := p84 v m 0 (Nat.lt_trans hv (by decide)) hm (by decide)
  have hlt : v * m < 2 ^ 224 := Nat.lt_trans (mul_lt hv hm) (by decide)
  rw [Nat.add_zero, Nat.mod_eq_of_lt hlt] at h
  exact h
theorem p84o {v : Nat} (hv : v + 1 < 2 ^ 224) : Pure 84 [q7 v, u64 1, u64 1] (q7 (v + 1)) := by
  have h := p84 v 1 1 (Nat.lt_of_succ_lt hv) (by decide) (by decide)
  rw [Nat.mul_one, Nat.mod_eq_of_lt hv] at h
  exact h
theorem p79w {v : Nat} (hv : v < 2 ^ 128) : Pure 79 [q7 v] (.tuple #[wd v, .bool true]) := by
  have h := p79 v (Nat.lt_trans hv (by decide))
  rw [Nat.mod_eq_of_lt hv, decide_eq_true hv] at h
  exact h


theorem p33 {a b : Nat} (ha : a < 2 ^ 64) (hb : b < 2 ^ 64) : Pure 33 [u64 a, u64 b] (wd (a * b)) := by
  have hab : a * b < 2 ^ 128 := Nat.lt_of_lt_of_le (mul_lt ha hb) (by decide)
  refine pure_of Try.func33 rfl Try.ntmps33 (by kernel_rfl) rfl (by simp) rfl ?_
  refine vc_seq ?_
  refine vc_go (by kernel_rfl) fun K hK => hK _ _ _ ?_
  clear hK K
  refine vc_seq ?_
  refine vc_reg (by kernel_rfl) fun K hK => ?_
  refine run_n (z := false) 1 (fun K' hK' => hK' _ _ _ ?_) (by decide)
  clear hK' K'
  refine run_call (p34w ha) rfl rfl rfl rfl ?_
  refine run_call (p77 a (Nat.lt_trans ha (by decide))) rfl rfl rfl rfl ?_
  refine run_n (z := false) 1 (fun K' hK' => hK' _ _ _ ?_) (by decide)
  clear hK' K'
  refine run_call (p84m (Nat.lt_trans ha (by decide)) hb) rfl rfl rfl rfl ?_
  refine run_call (p79w hab) rfl rfl rfl rfl ?_
  refine run_end (z := false) fun K' hK' => hK' _ _ _ (hK _ _ _ ?_)
  clear hK' K' hK K
  refine vc_seq ?_
  refine vc_go (by kernel_rfl) fun K hK => hK _ _ _ ?_
  clear hK K
  exact vc_ret ⟨.inr rfl, rfl⟩

def div3 (a d : Nat) : Value := if d = 0 then .tuple #[wd 0, u64 0, .int .i64 130] else .tuple #[wd (a / d), u64 (a % d), .int .i64 0]
theorem div3_zero {a d : Nat} (h : d = 0) : div3 a d = .tuple #[wd 0, u64 0, .int .i64 130] := if_pos h
theorem div3_pos {a d : Nat} (h : 0 < d) : div3 a d = .tuple #[wd (a / d), u64 (a % d), .int .i64 0] := if_neg (by omega)
theorem p22 {a d : Nat} (ha : a < 2 ^ 128) (hd : d < 2 ^ 64) : Pure 22 [wd a, u64 d] (div3 a d) := by
  have hq : a / d < 2 ^ 128 := Nat.lt_of_le_of_lt (Nat.div_le_self _ _) ha
  refine pure_of Try.func22 rfl Try.ntmps22 (by kernel_rfl) rfl (by simp) (by unfold div3; split <;> rfl) ?_
  refine vc_seq ?_
  refine vc_go (by kernel_rfl) fun K hK => hK _ _ _ ?_
  clear hK K
  refine vc_seq ?_
  refine vc_seq ?_
  refine vc_go (by kernel_rfl) fun K hK => hK _ _ _ ?_
  clear hK K
  refine vc_cond rfl (fun c0 => ?_) (fun c0 => ?_)
  · -- cond 0 t12 true
    refine vc_seq ?_
    refine vc_go (by kernel_rfl) fun K hK => hK _ _ _ ?_
    clear hK K
    refine vc_ret ⟨.inr rfl, ?_⟩
    have h0 : d = 0 := by
      simp only [beq_iff_eq] at c0
      omega
    rw [div3_zero h0]
    rfl
  · -- cond 0 t12 false
    refine vc_skip ?_
    refine vc_seq ?_
    have hd0 : 0 < d := by
      simp only [beq_eq_false_iff_ne] at c0
      omega
    refine vc_reg (by kernel_rfl) fun K hK => ?_
    refine run_n (z := false) 1 (fun K' hK' => hK' _ _ _ ?_) (by decide)
    clear hK' K'
    refine run_call (p77 a ha) rfl rfl rfl rfl ?_
    refine run_n (z := false) 1 (fun K' hK' => hK' _ _ _ ?_) (by decide)
    clear hK' K'
    refine run_call (p78 a d (Nat.lt_trans ha (by decide)) hd0 hd) rfl rfl rfl rfl ?_
    refine run_end (z := false) fun K' hK' => hK' _ _ _ (hK _ _ _ ?_)
    clear hK' K' hK K
    refine vc_seq ?_
    refine vc_reg (by kernel_rfl) fun K hK => ?_
    refine run_n (z := false) 1 (fun K' hK' => hK' _ _ _ ?_) (by decide)
    clear hK' K'
    refine run_call (p79w hq) rfl rfl rfl rfl ?_
    refine run_end (z := false) fun K' hK' => hK' _ _ _ (hK _ _ _ ?_)
    clear hK' K' hK K
    refine vc_seq ?_
    refine vc_go (by kernel_rfl) fun K hK => hK _ _ _ ?_
    clear hK K
    refine vc_ret ⟨.inr rfl, ?_⟩
    rw [div3_pos hd0]
    rfl

/-- The product over a number, rounded down, or up. -/
def sc (a m d : Nat) (up : Bool) : Nat := a * m / d + if up = true ∧ 0 < a * m % d then 1 else 0
def scR (a m d : Nat) (up : Bool) : Value := if d = 0 then resW 0 130 else if sc a m d up < 2 ^ 128 then resW (sc a m d up) 0 else resW 0 131
theorem scR_plain (a m d : Nat) (up : Bool) : plain (scR a m d up) = true := by
  unfold scR
  repeat' split
  all_goals rfl
theorem scR_zero {a m d : Nat} {up : Bool} (h : d = 0) : scR a m d up = resW 0 130 := if_pos h
theorem scR_ok {a m d : Nat} {up : Bool} (h : 0 < d) (h2 : sc a m d up < 2 ^ 128) : scR a m d up = resW (sc a m d up) 0 := (if_neg (by omega)).trans (if_pos h2)
theorem scR_bad {a m d : Nat} {up : Bool} (h : 0 < d) (h2 : ¬ sc a m d up < 2 ^ 128) : scR a m d up = resW 0 131 := (if_neg (by omega)).trans (if_neg h2)
theorem p80 {a m d : Nat} (up : Bool) (ha : a < 2 ^ 128) (hm : m < 2 ^ 64) (hd : d < 2 ^ 64) : Pure 80 [wd a, u64 m, u64 d, .bool up] (scR a m d up) := by
  have ham : a * m < 2 ^ 192 := Nat.lt_of_lt_of_le (mul_lt ha hm) (by decide)
  have hq : a * m / d + 1 < 2 ^ 224 := Nat.lt_of_le_of_lt (Nat.add_le_add_right (Nat.div_le_self _ _) 1) (by omega)
  refine pure_of Try.func80 rfl Try.ntmps80 (by kernel_rfl) rfl (by simp) (scR_plain _ _ _ _) ?_
  refine vc_seq ?_
  refine vc_go (by kernel_rfl) fun K hK => hK _ _ _ ?_
  clear hK K
  refine vc_seq ?_
  refine vc_seq ?_
  refine vc_go (by kernel_rfl) fun K hK => hK _ _ _ ?_
  clear hK K
  refine vc_cond rfl (fun c0 => ?_) (fun c0 => ?_)
  · -- cond 0 t15 true
    refine vc_seq ?_
    refine vc_go (by kernel_rfl) fun K hK => hK _ _ _ ?_
    clear hK K
    refine vc_ret ⟨.inr rfl, ?_⟩
    have h0 : d = 0 := by
      simp only [beq_iff_eq] at c0
      omega
    rw [scR_zero h0]
    rfl
  · -- cond 0 t15 false
    refine vc_skip ?_
    refine vc_seq ?_
    have hd0 : 0 < d := by
      simp only [beq_eq_false_iff_ne] at c0
      omega
    refine vc_reg (by kernel_rfl) fun K hK => ?_
    refine run_n (z := false) 1 (fun K' hK' => hK' _ _ _ ?_) (by decide)
    clear hK' K'
    refine run_call (p77 a ha) rfl rfl rfl rfl ?_
    refine run_n (z := false) 1 (fun K' hK' => hK' _ _ _ ?_) (by decide)
    clear hK' K'
    refine run_call (p84m ha hm) rfl rfl rfl rfl ?_
    refine run_n (z := false) 1 (fun K' hK' => hK' _ _ _ ?_) (by decide)
    clear hK' K'
    refine run_call (p78 (a * m) d (by omega) hd0 hd) rfl rfl rfl rfl ?_
    refine run_end (z := false) fun K' hK' => hK' _ _ _ (hK _ _ _ ?_)
    clear hK' K' hK K
    refine vc_seq ?_
    refine vc_seq ?_
    refine vc_reg (by kernel_rfl) fun K hK => ?_
    refine run_n (z := false) 2 (fun K' hK' => hK' _ _ _ ?_) (by decide)
    clear hK' K'
    refine vgo_case 27 rfl (fun g0 => ?_) (fun g0 => ?_)
    · -- split 0 at 4,2 true
      refine run_end (z := false) fun K' hK' => hK' _ _ _ (hK _ _ _ ?_)
      clear hK' K' hK K
      refine vc_cond rfl (fun c1 => ?_) (fun c1 => ?_)
      · -- cond 1 t30 true
        refine vc_reg (by kernel_rfl) fun K hK => ?_
        refine run_n (z := false) 1 (fun K' hK' => hK' _ _ _ ?_) (by decide)
        clear hK' K'
        refine run_call (p84o hq) rfl rfl rfl rfl ?_
        refine run_end (z := false) fun K' hK' => hK' _ _ _ (hK _ _ _ ?_)
        clear hK' K' hK K
        refine vc_seq ?_
        refine vc_reg (by kernel_rfl) fun K hK => ?_
        refine run_n (z := false) 1 (fun K' hK' => hK' _ _ _ ?_) (by decide)
        clear hK' K'
        refine run_call (p79 _ hq) rfl rfl rfl rfl ?_
        refine run_end (z := false) fun K' hK' => hK' _ _ _ (hK _ _ _ ?_)
        clear hK' K' hK K
        refine vc_seq ?_
        refine vc_seq ?_
        refine vc_go (by kernel_rfl) fun K hK => hK _ _ _ ?_
        clear hK K
        refine vc_cond rfl (fun c2 => ?_) (fun c2 => ?_)
        · -- cond 2 t39 true
          refine vc_seq ?_
          refine vc_go (by kernel_rfl) fun K hK => hK _ _ _ ?_
          clear hK K
          refine vc_ret ⟨.inr rfl, ?_⟩
          simp only [Bool.not_eq_true', decide_eq_true_eq, decide_eq_false_iff_not, Bool.not_eq_false'] at *
          have hs : sc a m d up = a * m / d + 1 := by rw [sc, if_pos ⟨g0, by omega⟩]
          rw [scR_bad hd0 (by rw [hs]; exact c2)]
          rfl
        · -- cond 2 t39 false
          refine vc_skip ?_
          refine vc_seq ?_
          refine vc_go (by kernel_rfl) fun K hK => hK _ _ _ ?_
          clear hK K
          refine vc_ret ⟨.inr rfl, ?_⟩
          simp only [Bool.not_eq_true', decide_eq_true_eq, decide_eq_false_iff_not, Bool.not_eq_false'] at *
          have hs : sc a m d up = a * m / d + 1 := by rw [sc, if_pos ⟨g0, by omega⟩]
          refine Eq.trans (b := some (.tuple #[.agg #[.int .u64 _, .int .u64 _], .int .i64 _])) rfl ?_
          refine fin_we (a * m / d + 1) (by rw [Nat.mod_eq_of_lt c2]) (by rw [Nat.mod_eq_of_lt c2]) (by rw [scR_ok hd0 (by rw [hs]; exact c2), hs])
      · -- cond 1 t30 false
        refine vc_skip ?_
        refine vc_seq ?_
        refine vc_reg (by kernel_rfl) fun K hK => ?_
        refine run_n (z := false) 1 (fun K' hK' => hK' _ _ _ ?_) (by decide)
        clear hK' K'
        refine run_call (p79 _ (by omega)) rfl rfl rfl rfl ?_
        refine run_end (z := false) fun K' hK' => hK' _ _ _ (hK _ _ _ ?_)
        clear hK' K' hK K
        refine vc_seq ?_
        refine vc_seq ?_
        refine vc_go (by kernel_rfl) fun K hK => hK _ _ _ ?_
        clear hK K
        refine vc_cond rfl (fun c3 => ?_) (fun c3 => ?_)
        · -- cond 3 t39 true
          refine vc_seq ?_
          refine vc_go (by kernel_rfl) fun K hK => hK _ _ _ ?_
          clear hK K
          refine vc_ret ⟨.inr rfl, ?_⟩
          simp only [Bool.not_eq_true', decide_eq_true_eq, decide_eq_false_iff_not, Bool.not_eq_false'] at *
          have hs : sc a m d up = a * m / d := by rw [sc, if_neg (fun h => by omega), Nat.add_zero]
          rw [scR_bad hd0 (by rw [hs]; exact c3)]
          rfl
        · -- cond 3 t39 false
          refine vc_skip ?_
          refine vc_seq ?_
          refine vc_go (by kernel_rfl) fun K hK => hK _ _ _ ?_
          clear hK K
          refine vc_ret ⟨.inr rfl, ?_⟩
          simp only [Bool.not_eq_true', decide_eq_true_eq, decide_eq_false_iff_not, Bool.not_eq_false'] at *
          have hs : sc a m d up = a * m / d := by rw [sc, if_neg (fun h => by omega), Nat.add_zero]
          refine Eq.trans (b := some (.tuple #[.agg #[.int .u64 _, .int .u64 _], .int .i64 _])) rfl ?_
          refine fin_we (a * m / d) (by rw [Nat.mod_eq_of_lt c3]) (by rw [Nat.mod_eq_of_lt c3]) (by rw [scR_ok hd0 (by rw [hs]; exact c3), hs])
    · -- split 0 at 4,2 false
      refine run_end (z := false) fun K' hK' => hK' _ _ _ (hK _ _ _ ?_)
      clear hK' K' hK K
      refine vc_cond (t := false) rfl (fun h => by cases h) (fun _ => ?_)
      refine vc_skip ?_
      refine vc_seq ?_
      refine vc_reg (by kernel_rfl) fun K hK => ?_
      refine run_n (z := false) 1 (fun K' hK' => hK' _ _ _ ?_) (by decide)
      clear hK' K'
      refine run_call (p79 _ (by omega)) rfl rfl rfl rfl ?_
      refine run_end (z := false) fun K' hK' => hK' _ _ _ (hK _ _ _ ?_)
      clear hK' K' hK K
      refine vc_seq ?_
      refine vc_seq ?_
      refine vc_go (by kernel_rfl) fun K hK => hK _ _ _ ?_
      clear hK K
      refine vc_cond rfl (fun c5 => ?_) (fun c5 => ?_)
      · -- cond 5 t39 true
        refine vc_seq ?_
        refine vc_go (by kernel_rfl) fun K hK => hK _ _ _ ?_
        clear hK K
        refine vc_ret ⟨.inr rfl, ?_⟩
        simp only [Bool.not_eq_true', decide_eq_true_eq, decide_eq_false_iff_not, Bool.not_eq_false'] at *
        have hs : sc a m d up = a * m / d := by rw [sc, if_neg (fun h => by rw [g0] at h; exact absurd h.1 (by decide)), Nat.add_zero]
        rw [scR_bad hd0 (by rw [hs]; exact c5)]
        rfl
      · -- cond 5 t39 false
        refine vc_skip ?_
        refine vc_seq ?_
        refine vc_go (by kernel_rfl) fun K hK => hK _ _ _ ?_
        clear hK K
        refine vc_ret ⟨.inr rfl, ?_⟩
        simp only [Bool.not_eq_true', decide_eq_true_eq, decide_eq_false_iff_not, Bool.not_eq_false'] at *
        have hs : sc a m d up = a * m / d := by rw [sc, if_neg (fun h => by rw [g0] at h; exact absurd h.1 (by decide)), Nat.add_zero]
        refine Eq.trans (b := some (.tuple #[.agg #[.int .u64 _, .int .u64 _], .int .i64 _])) rfl ?_
        refine fin_we (a * m / d) (by rw [Nat.mod_eq_of_lt c5]) (by rw [Nat.mod_eq_of_lt c5]) (by rw [scR_ok hd0 (by rw [hs]; exact c5), hs])

theorem scR_res (a m d : Nat) (up : Bool) : ∃ x e, scR a m d up = resW x e ∧ ((d = 0 ∧ x = 0 ∧ e = 130) ∨ (0 < d ∧ sc a m d up < 2 ^ 128 ∧ x = sc a m d up ∧ e = 0) ∨ (0 < d ∧ ¬ sc a m d up < 2 ^ 128 ∧ x = 0 ∧ e = 131)) := by
  by_cases h : d = 0
  · exact ⟨0, 130, scR_zero h, .inl ⟨h, rfl, rfl⟩⟩
  · have hd : 0 < d := by omega
    by_cases h2 : sc a m d up < 2 ^ 128
    · exact ⟨_, 0, scR_ok hd h2, .inr (.inl ⟨hd, h2, rfl, rfl⟩)⟩
    · exact ⟨0, 131, scR_bad hd h2, .inr (.inr ⟨hd, h2, rfl, rfl⟩)⟩
theorem p23 {a m d : Nat} (ha : a < 2 ^ 128) (hm : m < 2 ^ 64) (hd : d < 2 ^ 64) : Pure 23 [wd a, u64 m, u64 d] (scR a m d true) := by
  have h80 := p80 true ha hm hd
  obtain ⟨x, e, hs, _⟩ := scR_res a m d true
  rw [hs] at h80 ⊢
  refine pure_of Try.func23 rfl Try.ntmps23 (by kernel_rfl) rfl (by simp) rfl ?_
  refine vc_seq ?_
  refine vc_go (by kernel_rfl) fun K hK => hK _ _ _ ?_
  clear hK K
  refine vc_seq ?_
  refine vc_reg (by kernel_rfl) fun K hK => ?_
  refine run_n (z := false) 3 (fun K' hK' => hK' _ _ _ ?_) (by decide)
  clear hK' K'
  refine run_call (h80) rfl rfl rfl rfl ?_
  refine run_end (z := false) fun K' hK' => hK' _ _ _ (hK _ _ _ ?_)
  clear hK' K' hK K
  exact vc_ret ⟨.inr rfl, rfl⟩

theorem p21 : Pure 21 [] (.bool true) := by
  refine pure_of Try.func21 rfl Try.ntmps21 (by kernel_rfl) rfl (by simp) rfl ?_
  refine vc_seq ?_
  refine vc_go (by kernel_rfl) fun K hK => hK _ _ _ ?_
  clear hK K
  refine vc_seq ?_
  refine vc_reg (by kernel_rfl) fun K hK => ?_
  refine run_call (p33 (a := 9223372036854775808) (b := 4) (by decide) (by decide)) rfl rfl rfl rfl ?_
  refine run_end (z := false) fun K' hK' => hK' _ _ _ (hK _ _ _ ?_)
  clear hK' K' hK K
  refine vc_seq ?_
  refine vc_reg (by kernel_rfl) fun K hK => ?_
  refine run_n (z := false) 1 (fun K' hK' => hK' _ _ _ ?_) (by decide)
  clear hK' K'
  refine run_call (p22 (a := 18446744073709551616) (d := 10) (by decide) (by decide)) rfl rfl rfl rfl ?_
  refine run_end (z := false) fun K' hK' => hK' _ _ _ (hK _ _ _ ?_)
  clear hK' K' hK K
  refine vc_seq ?_
  refine vc_regD [(8, 9)] (by kernel_rfl) (by kernel_rfl) fun K hK => ?_
  refine runD_n (z := false) 9 (fun K' hK' => hK' _ _ _ _ ?_) (by decide)
  clear hK' K'
  refine runD_call (p34w (a := 1844674407370955161) (by decide)) rfl rfl rfl rfl ?_
  refine runD_end (z := false) fun K' hK' => hK' _ _ _ _ (hK _ _ _ ?_)
  clear hK' K' hK K
  exact vc_ret ⟨.inr rfl, rfl⟩
end Go.Proofs.Ytdfkcijholopoaa.Vm
