/- Layer frac: its functions. -/
import Derived.Test.YtdfkcijholopoaaFa
namespace Go.Proofs.Ytdfkcijholopoaa.Vm
open Go Go.RowKit
set_option maxRecDepth 10000
set_option linter.unusedSimpArgs false
set_option linter.unusedVariables false

theorem sc_one (a m : Nat) : sc a m 1 true = a * m := by
  rw [sc, Nat.div_one, Nat.mod_one, if_neg (fun h => Nat.lt_irrefl 0 h.2), Nat.add_zero]
theorem u64_ne {e : Int} (h : e ≠ 0) : (e != 0) = true := by simpa using h


theorem p91 {n w : Nat} (hn : n < 2 ^ 128) (hw : w < 2 ^ 64) (h : n * w < 2 ^ 128) : Pure 91 [wd n, u64 w] (wd (n * w)) := by
  have h1 := p23 (d := 1) hn hw (by decide)
  rw [scR_ok (by decide) (by rw [sc_one]; exact h), sc_one] at h1
  refine pure_of Try.func91 rfl Try.ntmps91 (by kernel_rfl) rfl (by simp) rfl ?_
  refine vc_seq ?_
  refine vc_go (by kernel_rfl) fun K hK => hK _ _ _ ?_
  clear hK K
  refine vc_seq ?_
  refine vc_reg (by kernel_rfl) fun K hK => ?_
  refine run_n (z := false) 2 (fun K' hK' => hK' _ _ _ ?_) (by decide)
  clear hK' K'
  refine run_call (h1) rfl rfl rfl rfl ?_
  refine run_end (z := false) fun K' hK' => hK' _ _ _ (hK _ _ _ ?_)
  clear hK' K' hK K
  refine vc_seq ?_
  refine vc_go (by kernel_rfl) fun K hK => hK _ _ _ ?_
  clear hK K
  exact vc_ret ⟨.inr rfl, rfl⟩

theorem p42n {a v b w : Nat} (hr : (rt a v && rt b w) = false) : Pure 42 [fr a v, fr b w] (.int .i64 0) := by
  have h90 := p90b a v b w
  rw [hr] at h90
  refine pure_of Try.func42 rfl Try.ntmps42 (by kernel_rfl) rfl (by simp) rfl ?_
  refine vc_seq ?_
  refine vc_go (by kernel_rfl) fun K hK => hK _ _ _ ?_
  clear hK K
  refine vc_seq ?_
  refine vc_seq ?_
  refine vc_reg (by kernel_rfl) fun K hK => ?_
  refine run_n (z := false) 3 (fun K' hK' => hK' _ _ _ ?_) (by decide)
  clear hK' K'
  refine run_ro (fun _ => (4, 0)) (h90) ?_ rfl rfl rfl rfl ?_
  · intro x hx
    simp only [List.mem_singleton] at hx
    subst hx
    exact ⟨_, _, _, rfl, fun i v hv => by rw [Nat.zero_add]; exact hv⟩
  refine run_end (z := false) fun K' hK' => hK' _ _ _ (hK _ _ _ ?_)
  clear hK' K' hK K
  refine vc_cond (t := true) rfl (fun _ => ?_) (fun h => by cases h)
  refine vc_seq ?_
  refine vc_go (by kernel_rfl) fun K hK => hK _ _ _ ?_
  clear hK K
  exact vc_ret ⟨.inr rfl, rfl⟩

theorem p42y {a v b w : Nat} (hra : rt a v = true) (hrb : rt b w = true) : Pure 42 [fr a v, fr b w] (.int .i64 (cmpW (a * w) (b * v))) := by
  have h90 := p90b a v b w
  rw [hra, hrb] at h90
  have ra := rt_w hra
  have rb := rt_w hrb
  have m1 : a * w < 2 ^ 128 := Nat.lt_trans (mul_lt ra.2.2 (show w < 2 ^ 16 by omega)) (by decide)
  have m2 : b * v < 2 ^ 128 := Nat.lt_trans (mul_lt rb.2.2 (show v < 2 ^ 16 by omega)) (by decide)
  refine pure_of Try.func42 rfl Try.ntmps42 (by kernel_rfl) rfl (by simp) rfl ?_
  refine vc_seq ?_
  refine vc_go (by kernel_rfl) fun K hK => hK _ _ _ ?_
  clear hK K
  refine vc_seq ?_
  refine vc_seq ?_
  refine vc_reg (by kernel_rfl) fun K hK => ?_
  refine run_n (z := false) 3 (fun K' hK' => hK' _ _ _ ?_) (by decide)
  clear hK' K'
  refine run_ro (fun _ => (4, 0)) (h90) ?_ rfl rfl rfl rfl ?_
  · intro x hx
    simp only [List.mem_singleton] at hx
    subst hx
    exact ⟨_, _, _, rfl, fun i v hv => by rw [Nat.zero_add]; exact hv⟩
  refine run_end (z := false) fun K' hK' => hK' _ _ _ (hK _ _ _ ?_)
  clear hK' K' hK K
  refine vc_cond (t := false) rfl (fun h => by cases h) (fun _ => ?_)
  refine vc_skip ?_
  refine vc_seq ?_
  refine vc_regD [(4, 6), (4, 8)] (by kernel_rfl) (by kernel_rfl) fun K hK => ?_
  refine runD_n (z := false) 4 (fun K' hK' => hK' _ _ _ _ ?_) (by decide)
  clear hK' K'
  refine runD_call (p91 (Nat.lt_trans ra.2.2 (by decide)) (by omega) m1) rfl rfl rfl rfl ?_
  refine runD_n (z := false) 4 (fun K' hK' => hK' _ _ _ _ ?_) (by decide)
  clear hK' K'
  refine runD_call (p91 (Nat.lt_trans rb.2.2 (by decide)) (by omega) m2) rfl rfl rfl rfl ?_
  refine runD_call (p29 _ _) rfl rfl rfl rfl ?_
  refine runD_end (z := false) fun K' hK' => hK' _ _ _ _ (hK _ _ _ ?_)
  clear hK' K' hK K
  exact vc_ret ⟨.inr rfl, rfl⟩

theorem p57y {n w : Nat} (hr : rt n w = true) : Pure 57 [fr n w] (.int .i64 0) := by
  have h90 := p90a n w
  rw [hr] at h90
  refine pure_of Try.func57 rfl Try.ntmps57 (by kernel_rfl) rfl (by simp) rfl ?_
  refine vc_seq ?_
  refine vc_go (by kernel_rfl) fun K hK => hK _ _ _ ?_
  clear hK K
  refine vc_seq ?_
  refine vc_seq ?_
  refine vc_reg (by kernel_rfl) fun K hK => ?_
  refine run_n (z := false) 2 (fun K' hK' => hK' _ _ _ ?_) (by decide)
  clear hK' K'
  refine run_ro (fun _ => (2, 0)) (h90) ?_ rfl rfl rfl rfl ?_
  · intro x hx
    simp only [List.mem_singleton] at hx
    subst hx
    exact ⟨_, _, _, rfl, fun i v hv => by rw [Nat.zero_add]; exact hv⟩
  refine run_end (z := false) fun K' hK' => hK' _ _ _ (hK _ _ _ ?_)
  clear hK' K' hK K
  refine vc_cond (t := false) rfl (fun h => by cases h) (fun _ => ?_)
  refine vc_skip ?_
  refine vc_seq ?_
  refine vc_go (by kernel_rfl) fun K hK => hK _ _ _ ?_
  clear hK K
  exact vc_ret ⟨.inr rfl, rfl⟩

theorem p57n {n w : Nat} (hr : rt n w = false) : Pure 57 [fr n w] (.int .i64 150) := by
  have h90 := p90a n w
  rw [hr] at h90
  refine pure_of Try.func57 rfl Try.ntmps57 (by kernel_rfl) rfl (by simp) rfl ?_
  refine vc_seq ?_
  refine vc_go (by kernel_rfl) fun K hK => hK _ _ _ ?_
  clear hK K
  refine vc_seq ?_
  refine vc_seq ?_
  refine vc_reg (by kernel_rfl) fun K hK => ?_
  refine run_n (z := false) 2 (fun K' hK' => hK' _ _ _ ?_) (by decide)
  clear hK' K'
  refine run_ro (fun _ => (2, 0)) (h90) ?_ rfl rfl rfl rfl ?_
  · intro x hx
    simp only [List.mem_singleton] at hx
    subst hx
    exact ⟨_, _, _, rfl, fun i v hv => by rw [Nat.zero_add]; exact hv⟩
  refine run_end (z := false) fun K' hK' => hK' _ _ _ (hK _ _ _ ?_)
  clear hK' K' hK K
  refine vc_cond (t := true) rfl (fun _ => ?_) (fun h => by cases h)
  refine vc_seq ?_
  refine vc_go (by kernel_rfl) fun K hK => hK _ _ _ ?_
  clear hK K
  exact vc_ret ⟨.inr rfl, rfl⟩

theorem p58y {n w : Nat} (hn : n < 2 ^ 64) (hr : wt w = true) : Pure 58 [u64 n, u64 w] (.tuple #[fr n w, .int .i64 0]) := by
  have h := p106 w
  rw [hr] at h
  refine pure_of Try.func58 rfl Try.ntmps58 (by kernel_rfl) rfl (by simp) rfl ?_
  refine vc_seq ?_
  refine vc_go (by kernel_rfl) fun K hK => hK _ _ _ ?_
  clear hK K
  refine vc_seq ?_
  refine vc_seq ?_
  refine vc_reg (by kernel_rfl) fun K hK => ?_
  refine run_n (z := false) 1 (fun K' hK' => hK' _ _ _ ?_) (by decide)
  clear hK' K'
  refine run_call (h) rfl rfl rfl rfl ?_
  refine run_end (z := false) fun K' hK' => hK' _ _ _ (hK _ _ _ ?_)
  clear hK' K' hK K
  refine vc_cond (t := false) rfl (fun h => by cases h) (fun _ => ?_)
  refine vc_skip ?_
  refine vc_seq ?_
  refine vc_reg (by kernel_rfl) fun K hK => ?_
  refine run_n (z := false) 1 (fun K' hK' => hK' _ _ _ ?_) (by decide)
  clear hK' K'
  refine run_call (p34w hn) rfl rfl rfl rfl ?_
  refine run_end (z := false) fun K' hK' => hK' _ _ _ (hK _ _ _ ?_)
  clear hK' K' hK K
  exact vc_ret ⟨.inr rfl, rfl⟩

theorem p58n {n w : Nat} (hn : n < 2 ^ 64) (hr : wt w = false) : Pure 58 [u64 n, u64 w] (.tuple #[fr 0 0, .int .i64 2]) := by
  have h := p106 w
  rw [hr] at h
  refine pure_of Try.func58 rfl Try.ntmps58 (by kernel_rfl) rfl (by simp) rfl ?_
  refine vc_seq ?_
  refine vc_go (by kernel_rfl) fun K hK => hK _ _ _ ?_
  clear hK K
  refine vc_seq ?_
  refine vc_seq ?_
  refine vc_reg (by kernel_rfl) fun K hK => ?_
  refine run_n (z := false) 1 (fun K' hK' => hK' _ _ _ ?_) (by decide)
  clear hK' K'
  refine run_call (h) rfl rfl rfl rfl ?_
  refine run_end (z := false) fun K' hK' => hK' _ _ _ (hK _ _ _ ?_)
  clear hK' K' hK K
  refine vc_cond (t := true) rfl (fun _ => ?_) (fun h => by cases h)
  refine vc_seq ?_
  refine vc_go (by kernel_rfl) fun K hK => hK _ _ _ ?_
  clear hK K
  exact vc_ret ⟨.inr rfl, rfl⟩

theorem p107e {x w m : Nat} {e : Int} (he : e ≠ 0) : Pure 107 [fr x w, wd m, .int .i64 e] (.tuple #[fr 0 0, .int .i64 131]) := by
  refine pure_of Try.func107 rfl Try.ntmps107 (by kernel_rfl) rfl (by simp) rfl ?_
  refine vc_seq ?_
  refine vc_go (by kernel_rfl) fun K hK => hK _ _ _ ?_
  clear hK K
  refine vc_seq ?_
  refine vc_seq ?_
  refine vc_reg (by kernel_rfl) fun K hK => ?_
  refine run_n (z := false) 3 (fun K' hK' => hK' _ _ _ ?_) (by decide)
  clear hK' K'
  refine vgo_known 10 (b := true) (bb (u64_ne he)) ?_
  refine run_end (z := false) fun K' hK' => hK' _ _ _ (hK _ _ _ ?_)
  clear hK' K' hK K
  refine vc_cond (t := true) rfl (fun _ => ?_) (fun h => by cases h)
  refine vc_seq ?_
  refine vc_go (by kernel_rfl) fun K hK => hK _ _ _ ?_
  clear hK K
  exact vc_ret ⟨.inr rfl, rfl⟩

theorem p107r {x w m : Nat} (hm : ¬ m < 2 ^ 100) : Pure 107 [fr x w, wd m, .int .i64 0] (.tuple #[fr 0 0, .int .i64 131]) := by
  have hb : decide (((m / 2 ^ 64 : Nat) : Int) ≥ 68719476736) = true := by rw [decide_eq_true_eq]; omega
  refine pure_of Try.func107 rfl Try.ntmps107 (by kernel_rfl) rfl (by simp) rfl ?_
  refine vc_seq ?_
  refine vc_go (by kernel_rfl) fun K hK => hK _ _ _ ?_
  clear hK K
  refine vc_seq ?_
  refine vc_seq ?_
  refine vc_go (by kernel_rfl) fun K hK => hK _ _ _ ?_
  clear hK K
  refine vc_cond (t := true) (bb hb) (fun _ => ?_) (fun h => by cases h)
  refine vc_seq ?_
  refine vc_go (by kernel_rfl) fun K hK => hK _ _ _ ?_
  clear hK K
  exact vc_ret ⟨.inr rfl, rfl⟩

theorem p107y {x w m : Nat} (hm : m < 2 ^ 100) : Pure 107 [fr x w, wd m, .int .i64 0] (.tuple #[fr m w, .int .i64 0]) := by
  have hb : decide (((m / 2 ^ 64 : Nat) : Int) ≥ 68719476736) = false := by rw [decide_eq_false_iff_not]; omega
  refine pure_of Try.func107 rfl Try.ntmps107 (by kernel_rfl) rfl (by simp) rfl ?_
  refine vc_seq ?_
  refine vc_go (by kernel_rfl) fun K hK => hK _ _ _ ?_
  clear hK K
  refine vc_seq ?_
  refine vc_seq ?_
  refine vc_go (by kernel_rfl) fun K hK => hK _ _ _ ?_
  clear hK K
  refine vc_cond (t := false) (bb hb) (fun h => by cases h) (fun _ => ?_)
  refine vc_skip ?_
  refine vc_seq ?_
  refine vc_go (by kernel_rfl) fun K hK => hK _ _ _ ?_
  clear hK K
  exact vc_ret ⟨.inr rfl, rfl⟩

theorem p63n {n w k : Nat} (hr : rt n w = false) : Pure 63 [fr n w, u64 k] (.tuple #[fr 0 0, .int .i64 150]) := by
  have h90 := p90a n w
  rw [hr] at h90
  refine pure_of Try.func63 rfl Try.ntmps63 (by kernel_rfl) rfl (by simp) rfl ?_
  refine vc_seq ?_
  refine vc_go (by kernel_rfl) fun K hK => hK _ _ _ ?_
  clear hK K
  refine vc_seq ?_
  refine vc_seq ?_
  refine vc_reg (by kernel_rfl) fun K hK => ?_
  refine run_n (z := false) 2 (fun K' hK' => hK' _ _ _ ?_) (by decide)
  clear hK' K'
  refine run_ro (fun _ => (3, 0)) (h90) ?_ rfl rfl rfl rfl ?_
  · intro x hx
    simp only [List.mem_singleton] at hx
    subst hx
    exact ⟨_, _, _, rfl, fun i v hv => by rw [Nat.zero_add]; exact hv⟩
  refine run_end (z := false) fun K' hK' => hK' _ _ _ (hK _ _ _ ?_)
  clear hK' K' hK K
  refine vc_cond (t := true) rfl (fun _ => ?_) (fun h => by cases h)
  refine vc_seq ?_
  refine vc_go (by kernel_rfl) fun K hK => hK _ _ _ ?_
  clear hK K
  exact vc_ret ⟨.inr rfl, rfl⟩

theorem p63y {n w k : Nat} (hr : rt n w = true) (hk : k < 2 ^ 64) (h : n + k < 2 ^ 100) : Pure 63 [fr n w, u64 k] (.tuple #[fr (n + k) w, .int .i64 0]) := by
  have h90 := p90a n w
  rw [hr] at h90
  have rn := rt_w hr
  have h30 : Pure 30 [wd n, wd k] _ := p30 n k (by omega) (by omega)
  rw [if_pos (by omega)] at h30
  refine pure_of Try.func63 rfl Try.ntmps63 (by kernel_rfl) rfl (by simp) rfl ?_
  refine vc_seq ?_
  refine vc_go (by kernel_rfl) fun K hK => hK _ _ _ ?_
  clear hK K
  refine vc_seq ?_
  refine vc_seq ?_
  refine vc_reg (by kernel_rfl) fun K hK => ?_
  refine run_n (z := false) 2 (fun K' hK' => hK' _ _ _ ?_) (by decide)
  clear hK' K'
  refine run_ro (fun _ => (3, 0)) (h90) ?_ rfl rfl rfl rfl ?_
  · intro x hx
    simp only [List.mem_singleton] at hx
    subst hx
    exact ⟨_, _, _, rfl, fun i v hv => by rw [Nat.zero_add]; exact hv⟩
  refine run_end (z := false) fun K' hK' => hK' _ _ _ (hK _ _ _ ?_)
  clear hK' K' hK K
  refine vc_cond (t := false) rfl (fun h => by cases h) (fun _ => ?_)
  refine vc_skip ?_
  refine vc_seq ?_
  refine vc_regD [(1, 3), (1, 8), (3, 8), (4, 8)] (by kernel_rfl) (by kernel_rfl) fun K hK => ?_
  refine runD_n (z := false) 3 (fun K' hK' => hK' _ _ _ _ ?_) (by decide)
  clear hK' K'
  refine runD_call (p34w hk) rfl rfl rfl rfl ?_
  refine runD_call (h30) rfl rfl rfl rfl ?_
  refine runD_end (z := false) fun K' hK' => hK' _ _ _ _ (hK _ _ _ ?_)
  clear hK' K' hK K
  refine vc_seq ?_
  refine vc_reg (by kernel_rfl) fun K hK => ?_
  refine run_n (z := false) 3 (fun K' hK' => hK' _ _ _ ?_) (by decide)
  clear hK' K'
  refine run_call (p107y h) rfl rfl rfl rfl ?_
  refine run_end (z := false) fun K' hK' => hK' _ _ _ (hK _ _ _ ?_)
  clear hK' K' hK K
  exact vc_ret ⟨.inr rfl, rfl⟩

theorem p63r {n w k : Nat} (hr : rt n w = true) (hk : k < 2 ^ 64) (h : ¬ n + k < 2 ^ 100) : Pure 63 [fr n w, u64 k] (.tuple #[fr 0 0, .int .i64 131]) := by
  have h90 := p90a n w
  rw [hr] at h90
  have rn := rt_w hr
  have h30 : Pure 30 [wd n, wd k] _ := p30 n k (by omega) (by omega)
  rw [if_pos (by omega)] at h30
  refine pure_of Try.func63 rfl Try.ntmps63 (by kernel_rfl) rfl (by simp) rfl ?_
  refine vc_seq ?_
  refine vc_go (by kernel_rfl) fun K hK => hK _ _ _ ?_
  clear hK K
  refine vc_seq ?_
  refine vc_seq ?_
  refine vc_reg (by kernel_rfl) fun K hK => ?_
  refine run_n (z := false) 2 (fun K' hK' => hK' _ _ _ ?_) (by decide)
  clear hK' K'
  refine run_ro (fun _ => (3, 0)) (h90) ?_ rfl rfl rfl rfl ?_
  · intro x hx
    simp only [List.mem_singleton] at hx
    subst hx
    exact ⟨_, _, _, rfl, fun i v hv => by rw [Nat.zero_add]; exact hv⟩
  refine run_end (z := false) fun K' hK' => hK' _ _ _ (hK _ _ _ ?_)
  clear hK' K' hK K
  refine vc_cond (t := false) rfl (fun h => by cases h) (fun _ => ?_)
  refine vc_skip ?_
  refine vc_seq ?_
  refine vc_regD [(1, 3), (1, 8), (3, 8), (4, 8)] (by kernel_rfl) (by kernel_rfl) fun K hK => ?_
  refine runD_n (z := false) 3 (fun K' hK' => hK' _ _ _ _ ?_) (by decide)
  clear hK' K'
  refine runD_call (p34w hk) rfl rfl rfl rfl ?_
  refine runD_call (h30) rfl rfl rfl rfl ?_
  refine runD_end (z := false) fun K' hK' => hK' _ _ _ _ (hK _ _ _ ?_)
  clear hK' K' hK K
  refine vc_seq ?_
  refine vc_reg (by kernel_rfl) fun K hK => ?_
  refine run_n (z := false) 3 (fun K' hK' => hK' _ _ _ ?_) (by decide)
  clear hK' K'
  refine run_call (p107r h) rfl rfl rfl rfl ?_
  refine run_end (z := false) fun K' hK' => hK' _ _ _ (hK _ _ _ ?_)
  clear hK' K' hK K
  exact vc_ret ⟨.inr rfl, rfl⟩

theorem p62n {n w k : Nat} (hr : rt n w = false) : Pure 62 [fr n w, u64 k] (.tuple #[fr 0 0, .int .i64 150]) := by
  have h90 := p90a n w
  rw [hr] at h90
  refine pure_of Try.func62 rfl Try.ntmps62 (by kernel_rfl) rfl (by simp) rfl ?_
  refine vc_seq ?_
  refine vc_go (by kernel_rfl) fun K hK => hK _ _ _ ?_
  clear hK K
  refine vc_seq ?_
  refine vc_seq ?_
  refine vc_reg (by kernel_rfl) fun K hK => ?_
  refine run_n (z := false) 2 (fun K' hK' => hK' _ _ _ ?_) (by decide)
  clear hK' K'
  refine run_ro (fun _ => (3, 0)) (h90) ?_ rfl rfl rfl rfl ?_
  · intro x hx
    simp only [List.mem_singleton] at hx
    subst hx
    exact ⟨_, _, _, rfl, fun i v hv => by rw [Nat.zero_add]; exact hv⟩
  refine run_end (z := false) fun K' hK' => hK' _ _ _ (hK _ _ _ ?_)
  clear hK' K' hK K
  refine vc_cond (t := true) rfl (fun _ => ?_) (fun h => by cases h)
  refine vc_seq ?_
  refine vc_go (by kernel_rfl) fun K hK => hK _ _ _ ?_
  clear hK K
  exact vc_ret ⟨.inr rfl, rfl⟩

theorem p62a {n w k : Nat} (hr : rt n w = true) (hk : k < 2 ^ 64) (h : n < k) : Pure 62 [fr n w, u64 k] (.tuple #[fr (n - k) w, .int .i64 0]) := by
  have h90 := p90a n w
  rw [hr] at h90
  have rn := rt_w hr
  have h36 : Pure 36 [wd n, wd k] _ := p36 n k (by omega) (by omega)
  rw [if_pos h] at h36
  have e0 : n - k = 0 := by omega
  rw [e0]
  refine pure_of Try.func62 rfl Try.ntmps62 (by kernel_rfl) rfl (by simp) rfl ?_
  refine vc_seq ?_
  refine vc_go (by kernel_rfl) fun K hK => hK _ _ _ ?_
  clear hK K
  refine vc_seq ?_
  refine vc_seq ?_
  refine vc_reg (by kernel_rfl) fun K hK => ?_
  refine run_n (z := false) 2 (fun K' hK' => hK' _ _ _ ?_) (by decide)
  clear hK' K'
  refine run_ro (fun _ => (3, 0)) (h90) ?_ rfl rfl rfl rfl ?_
  · intro x hx
    simp only [List.mem_singleton] at hx
    subst hx
    exact ⟨_, _, _, rfl, fun i v hv => by rw [Nat.zero_add]; exact hv⟩
  refine run_end (z := false) fun K' hK' => hK' _ _ _ (hK _ _ _ ?_)
  clear hK' K' hK K
  refine vc_cond (t := false) rfl (fun h => by cases h) (fun _ => ?_)
  refine vc_skip ?_
  refine vc_seq ?_
  refine vc_regD [(1, 3), (1, 8), (3, 8), (4, 8)] (by kernel_rfl) (by kernel_rfl) fun K hK => ?_
  refine runD_n (z := false) 3 (fun K' hK' => hK' _ _ _ _ ?_) (by decide)
  clear hK' K'
  refine runD_call (p34w hk) rfl rfl rfl rfl ?_
  refine runD_call (h36) rfl rfl rfl rfl ?_
  refine runD_end (z := false) fun K' hK' => hK' _ _ _ _ (hK _ _ _ ?_)
  clear hK' K' hK K
  refine vc_seq ?_
  refine vc_seq ?_
  refine vc_go (by kernel_rfl) fun K hK => hK _ _ _ ?_
  clear hK K
  refine vc_cond (t := true) rfl (fun _ => ?_) (fun h => by cases h)
  refine vc_go (by kernel_rfl) fun K hK => hK _ _ _ ?_
  clear hK K
  refine vc_seq ?_
  refine vc_go (by kernel_rfl) fun K hK => hK _ _ _ ?_
  clear hK K
  exact vc_ret ⟨.inr rfl, rfl⟩

theorem p62b {n w k : Nat} (hr : rt n w = true) (hk : k < 2 ^ 64) (h : ¬ n < k) : Pure 62 [fr n w, u64 k] (.tuple #[fr (n - k) w, .int .i64 0]) := by
  have h90 := p90a n w
  rw [hr] at h90
  have rn := rt_w hr
  have h36 : Pure 36 [wd n, wd k] _ := p36 n k (by omega) (by omega)
  rw [if_neg h] at h36
  refine pure_of Try.func62 rfl Try.ntmps62 (by kernel_rfl) rfl (by simp) rfl ?_
  refine vc_seq ?_
  refine vc_go (by kernel_rfl) fun K hK => hK _ _ _ ?_
  clear hK K
  refine vc_seq ?_
  refine vc_seq ?_
  refine vc_reg (by kernel_rfl) fun K hK => ?_
  refine run_n (z := false) 2 (fun K' hK' => hK' _ _ _ ?_) (by decide)
  clear hK' K'
  refine run_ro (fun _ => (3, 0)) (h90) ?_ rfl rfl rfl rfl ?_
  · intro x hx
    simp only [List.mem_singleton] at hx
    subst hx
    exact ⟨_, _, _, rfl, fun i v hv => by rw [Nat.zero_add]; exact hv⟩
  refine run_end (z := false) fun K' hK' => hK' _ _ _ (hK _ _ _ ?_)
  clear hK' K' hK K
  refine vc_cond (t := false) rfl (fun h => by cases h) (fun _ => ?_)
  refine vc_skip ?_
  refine vc_seq ?_
  refine vc_regD [(1, 3), (1, 8), (3, 8), (4, 8)] (by kernel_rfl) (by kernel_rfl) fun K hK => ?_
  refine runD_n (z := false) 3 (fun K' hK' => hK' _ _ _ _ ?_) (by decide)
  clear hK' K'
  refine runD_call (p34w hk) rfl rfl rfl rfl ?_
  refine runD_call (h36) rfl rfl rfl rfl ?_
  refine runD_end (z := false) fun K' hK' => hK' _ _ _ _ (hK _ _ _ ?_)
  clear hK' K' hK K
  refine vc_seq ?_
  refine vc_seq ?_
  refine vc_go (by kernel_rfl) fun K hK => hK _ _ _ ?_
  clear hK K
  refine vc_cond (t := false) rfl (fun h => by cases h) (fun _ => ?_)
  refine vc_skip ?_
  refine vc_seq ?_
  refine vc_go (by kernel_rfl) fun K hK => hK _ _ _ ?_
  clear hK K
  exact vc_ret ⟨.inr rfl, rfl⟩

theorem p62y {n w k : Nat} (hr : rt n w = true) (hk : k < 2 ^ 64) : Pure 62 [fr n w, u64 k] (.tuple #[fr (n - k) w, .int .i64 0]) := by
  by_cases h : n < k
  · exact p62a hr hk h
  · exact p62b hr hk h


theorem sc_bd {n w v : Nat} (hn : n < 2 ^ 100) (hw : w ≤ 65535) : sc n w v true < 2 ^ 128 := by
  have h1 : n * w < 2 ^ 100 * 2 ^ 16 := mul_lt hn (by omega)
  have h2 : n * w / v ≤ n * w := Nat.div_le_self _ _
  unfold sc
  generalize n * w / v = q at *
  generalize n * w = p at *
  split <;> omega


theorem p61n {n v w : Nat} (hr : rt n v = false) : Pure 61 [fr n v, u64 w] (.tuple #[fr 0 0, .int .i64 150]) := by
  have h90 := p90a n v
  rw [hr] at h90
  refine pure_of Try.func61 rfl Try.ntmps61 (by kernel_rfl) rfl (by simp) rfl ?_
  refine vc_seq ?_
  refine vc_go (by kernel_rfl) fun K hK => hK _ _ _ ?_
  clear hK K
  refine vc_seq ?_
  refine vc_block ?_
  refine vc_seq ?_
  refine vc_reg (by kernel_rfl) fun K hK => ?_
  refine run_n (z := false) 2 (fun K' hK' => hK' _ _ _ ?_) (by decide)
  clear hK' K'
  refine run_ro (fun _ => (3, 0)) (h90) ?_ rfl rfl rfl rfl ?_
  · intro x hx
    simp only [List.mem_singleton] at hx
    subst hx
    exact ⟨_, _, _, rfl, fun i v hv => by rw [Nat.zero_add]; exact hv⟩
  refine run_end (z := false) fun K' hK' => hK' _ _ _ (hK _ _ _ ?_)
  clear hK' K' hK K
  refine vc_cond (t := true) rfl (fun _ => ?_) (fun h => by cases h)
  refine vc_seq ?_
  refine vc_go (by kernel_rfl) fun K hK => hK _ _ _ ?_
  clear hK K
  exact vc_ret ⟨.inr rfl, rfl⟩

theorem p61w {n v w : Nat} (hr : rt n v = true) (hw : wt w = false) : Pure 61 [fr n v, u64 w] (.tuple #[fr 0 0, .int .i64 2]) := by
  have h90 := p90a n v
  rw [hr] at h90
  have h106 := p106 w
  rw [hw] at h106
  refine pure_of Try.func61 rfl Try.ntmps61 (by kernel_rfl) rfl (by simp) rfl ?_
  refine vc_seq ?_
  refine vc_go (by kernel_rfl) fun K hK => hK _ _ _ ?_
  clear hK K
  refine vc_seq ?_
  refine vc_block ?_
  refine vc_seq ?_
  refine vc_reg (by kernel_rfl) fun K hK => ?_
  refine run_n (z := false) 2 (fun K' hK' => hK' _ _ _ ?_) (by decide)
  clear hK' K'
  refine run_ro (fun _ => (3, 0)) (h90) ?_ rfl rfl rfl rfl ?_
  · intro x hx
    simp only [List.mem_singleton] at hx
    subst hx
    exact ⟨_, _, _, rfl, fun i v hv => by rw [Nat.zero_add]; exact hv⟩
  refine run_end (z := false) fun K' hK' => hK' _ _ _ (hK _ _ _ ?_)
  clear hK' K' hK K
  refine vc_cond (t := false) rfl (fun h => by cases h) (fun _ => ?_)
  refine vc_seq ?_
  refine vc_reg (by kernel_rfl) fun K hK => ?_
  refine run_n (z := false) 1 (fun K' hK' => hK' _ _ _ ?_) (by decide)
  clear hK' K'
  refine run_call (h106) rfl rfl rfl rfl ?_
  refine run_end (z := false) fun K' hK' => hK' _ _ _ (hK _ _ _ ?_)
  clear hK' K' hK K
  refine vc_cond (t := true) rfl (fun _ => ?_) (fun h => by cases h)
  refine vc_seq ?_
  refine vc_go (by kernel_rfl) fun K hK => hK _ _ _ ?_
  clear hK K
  exact vc_ret ⟨.inr rfl, rfl⟩

theorem p61y {n v w : Nat} (hr : rt n v = true) (hw : wt w = true) (h : sc n w v true < 2 ^ 100) : Pure 61 [fr n v, u64 w] (.tuple #[fr (sc n w v true) w, .int .i64 0]) := by
  have h90 := p90a n v
  rw [hr] at h90
  have h106 := p106 w
  rw [hw] at h106
  have rn := rt_w hr
  have rw2 := wt_w hw
  have h23 := p23 (a := n) (m := w) (d := v) (by omega) (by omega) (by omega)
  rw [scR_ok (by omega) (sc_bd rn.2.2 rw2.2)] at h23
  have h107 := p107y (x := 0) (w := w) h
  refine pure_of Try.func61 rfl Try.ntmps61 (by kernel_rfl) rfl (by simp) rfl ?_
  refine vc_seq ?_
  refine vc_go (by kernel_rfl) fun K hK => hK _ _ _ ?_
  clear hK K
  refine vc_seq ?_
  refine vc_block ?_
  refine vc_seq ?_
  refine vc_reg (by kernel_rfl) fun K hK => ?_
  refine run_n (z := false) 2 (fun K' hK' => hK' _ _ _ ?_) (by decide)
  clear hK' K'
  refine run_ro (fun _ => (3, 0)) (h90) ?_ rfl rfl rfl rfl ?_
  · intro x hx
    simp only [List.mem_singleton] at hx
    subst hx
    exact ⟨_, _, _, rfl, fun i v hv => by rw [Nat.zero_add]; exact hv⟩
  refine run_end (z := false) fun K' hK' => hK' _ _ _ (hK _ _ _ ?_)
  clear hK' K' hK K
  refine vc_cond (t := false) rfl (fun h => by cases h) (fun _ => ?_)
  refine vc_seq ?_
  refine vc_reg (by kernel_rfl) fun K hK => ?_
  refine run_n (z := false) 1 (fun K' hK' => hK' _ _ _ ?_) (by decide)
  clear hK' K'
  refine run_call (h106) rfl rfl rfl rfl ?_
  refine run_end (z := false) fun K' hK' => hK' _ _ _ (hK _ _ _ ?_)
  clear hK' K' hK K
  refine vc_cond (t := false) rfl (fun h => by cases h) (fun _ => ?_)
  refine vc_skip ?_
  refine vc_seq ?_
  refine vc_reg (by kernel_rfl) fun K hK => ?_
  refine run_n (z := false) 5 (fun K' hK' => hK' _ _ _ ?_) (by decide)
  clear hK' K'
  refine run_call (h23) rfl rfl rfl rfl ?_
  refine run_end (z := false) fun K' hK' => hK' _ _ _ (hK _ _ _ ?_)
  clear hK' K' hK K
  refine vc_seq ?_
  refine vc_reg (by kernel_rfl) fun K hK => ?_
  refine run_n (z := false) 4 (fun K' hK' => hK' _ _ _ ?_) (by decide)
  clear hK' K'
  refine run_call (h107) rfl rfl rfl rfl ?_
  refine run_end (z := false) fun K' hK' => hK' _ _ _ (hK _ _ _ ?_)
  clear hK' K' hK K
  exact vc_ret ⟨.inr rfl, rfl⟩

theorem p61r {n v w : Nat} (hr : rt n v = true) (hw : wt w = true) (h : ¬ sc n w v true < 2 ^ 100) : Pure 61 [fr n v, u64 w] (.tuple #[fr 0 0, .int .i64 131]) := by
  have h90 := p90a n v
  rw [hr] at h90
  have h106 := p106 w
  rw [hw] at h106
  have rn := rt_w hr
  have rw2 := wt_w hw
  have h23 := p23 (a := n) (m := w) (d := v) (by omega) (by omega) (by omega)
  rw [scR_ok (by omega) (sc_bd rn.2.2 rw2.2)] at h23
  have h107 := p107r (x := 0) (w := w) h
  refine pure_of Try.func61 rfl Try.ntmps61 (by kernel_rfl) rfl (by simp) rfl ?_
  refine vc_seq ?_
  refine vc_go (by kernel_rfl) fun K hK => hK _ _ _ ?_
  clear hK K
  refine vc_seq ?_
  refine vc_block ?_
  refine vc_seq ?_
  refine vc_reg (by kernel_rfl) fun K hK => ?_
  refine run_n (z := false) 2 (fun K' hK' => hK' _ _ _ ?_) (by decide)
  clear hK' K'
  refine run_ro (fun _ => (3, 0)) (h90) ?_ rfl rfl rfl rfl ?_
  · intro x hx
    simp only [List.mem_singleton] at hx
    subst hx
    exact ⟨_, _, _, rfl, fun i v hv => by rw [Nat.zero_add]; exact hv⟩
  refine run_end (z := false) fun K' hK' => hK' _ _ _ (hK _ _ _ ?_)
  clear hK' K' hK K
  refine vc_cond (t := false) rfl (fun h => by cases h) (fun _ => ?_)
  refine vc_seq ?_
  refine vc_reg (by kernel_rfl) fun K hK => ?_
  refine run_n (z := false) 1 (fun K' hK' => hK' _ _ _ ?_) (by decide)
  clear hK' K'
  refine run_call (h106) rfl rfl rfl rfl ?_
  refine run_end (z := false) fun K' hK' => hK' _ _ _ (hK _ _ _ ?_)
  clear hK' K' hK K
  refine vc_cond (t := false) rfl (fun h => by cases h) (fun _ => ?_)
  refine vc_skip ?_
  refine vc_seq ?_
  refine vc_reg (by kernel_rfl) fun K hK => ?_
  refine run_n (z := false) 5 (fun K' hK' => hK' _ _ _ ?_) (by decide)
  clear hK' K'
  refine run_call (h23) rfl rfl rfl rfl ?_
  refine run_end (z := false) fun K' hK' => hK' _ _ _ (hK _ _ _ ?_)
  clear hK' K' hK K
  refine vc_seq ?_
  refine vc_reg (by kernel_rfl) fun K hK => ?_
  refine run_n (z := false) 4 (fun K' hK' => hK' _ _ _ ?_) (by decide)
  clear hK' K'
  refine run_call (h107) rfl rfl rfl rfl ?_
  refine run_end (z := false) fun K' hK' => hK' _ _ _ (hK _ _ _ ?_)
  clear hK' K' hK K
  exact vc_ret ⟨.inr rfl, rfl⟩

theorem p60n {n w : Nat} (hr : rt n w = false) : Pure 60 [fr n w] (.tuple #[wd 0, .int .i64 150]) := by
  have h90 := p90a n w
  rw [hr] at h90
  refine pure_of Try.func60 rfl Try.ntmps60 (by kernel_rfl) rfl (by simp) rfl ?_
  refine vc_seq ?_
  refine vc_go (by kernel_rfl) fun K hK => hK _ _ _ ?_
  clear hK K
  refine vc_seq ?_
  refine vc_seq ?_
  refine vc_reg (by kernel_rfl) fun K hK => ?_
  refine run_n (z := false) 2 (fun K' hK' => hK' _ _ _ ?_) (by decide)
  clear hK' K'
  refine run_ro (fun _ => (3, 0)) (h90) ?_ rfl rfl rfl rfl ?_
  · intro x hx
    simp only [List.mem_singleton] at hx
    subst hx
    exact ⟨_, _, _, rfl, fun i v hv => by rw [Nat.zero_add]; exact hv⟩
  refine run_end (z := false) fun K' hK' => hK' _ _ _ (hK _ _ _ ?_)
  clear hK' K' hK K
  refine vc_cond (t := true) rfl (fun _ => ?_) (fun h => by cases h)
  refine vc_seq ?_
  refine vc_go (by kernel_rfl) fun K hK => hK _ _ _ ?_
  clear hK K
  exact vc_ret ⟨.inr rfl, rfl⟩

theorem p60y {n w : Nat} (hr : rt n w = true) : Pure 60 [fr n w] (.tuple #[wd (n / w), .int .i64 0]) := by
  have h90 := p90a n w
  rw [hr] at h90
  have rn := rt_w hr
  have h22 := p22 (a := n) (d := w) (by omega) (by omega)
  rw [div3_pos (by omega)] at h22
  refine pure_of Try.func60 rfl Try.ntmps60 (by kernel_rfl) rfl (by simp) rfl ?_
  refine vc_seq ?_
  refine vc_go (by kernel_rfl) fun K hK => hK _ _ _ ?_
  clear hK K
  refine vc_seq ?_
  refine vc_seq ?_
  refine vc_reg (by kernel_rfl) fun K hK => ?_
  refine run_n (z := false) 2 (fun K' hK' => hK' _ _ _ ?_) (by decide)
  clear hK' K'
  refine run_ro (fun _ => (3, 0)) (h90) ?_ rfl rfl rfl rfl ?_
  · intro x hx
    simp only [List.mem_singleton] at hx
    subst hx
    exact ⟨_, _, _, rfl, fun i v hv => by rw [Nat.zero_add]; exact hv⟩
  refine run_end (z := false) fun K' hK' => hK' _ _ _ (hK _ _ _ ?_)
  clear hK' K' hK K
  refine vc_cond (t := false) rfl (fun h => by cases h) (fun _ => ?_)
  refine vc_skip ?_
  refine vc_seq ?_
  refine vc_reg (by kernel_rfl) fun K hK => ?_
  refine run_n (z := false) 4 (fun K' hK' => hK' _ _ _ ?_) (by decide)
  clear hK' K'
  refine run_call (h22) rfl rfl rfl rfl ?_
  refine run_end (z := false) fun K' hK' => hK' _ _ _ (hK _ _ _ ?_)
  clear hK' K' hK K
  refine vc_seq ?_
  refine vc_go (by kernel_rfl) fun K hK => hK _ _ _ ?_
  clear hK K
  exact vc_ret ⟨.inr rfl, rfl⟩

theorem p93a {m u s : Nat} (hm : m < 2 ^ 128) (hu : u < 2 ^ 64) (hs : s < 2 ^ 64) (h : m < s * u) : Pure 93 [fr m u, u64 s] (fr (m - s * u) u) := by
  have h36 : Pure 36 [wd m, wd (s * u)] _ := p36 m (s * u) hm (Nat.lt_of_lt_of_le (mul_lt hs hu) (by decide))
  rw [if_pos h] at h36
  have e0 : m - s * u = 0 := by omega
  rw [e0]
  refine pure_of Try.func93 rfl Try.ntmps93 (by kernel_rfl) rfl (by simp) rfl ?_
  refine vc_seq ?_
  refine vc_go (by kernel_rfl) fun K hK => hK _ _ _ ?_
  clear hK K
  refine vc_seq ?_
  refine vc_regD [(1, 5), (1, 10), (4, 10), (5, 10), (6, 10)] (by kernel_rfl) (by kernel_rfl) fun K hK => ?_
  refine runD_n (z := false) 5 (fun K' hK' => hK' _ _ _ _ ?_) (by decide)
  clear hK' K'
  refine runD_call (p33 hs hu) rfl rfl rfl rfl ?_
  refine runD_call (h36) rfl rfl rfl rfl ?_
  refine runD_end (z := false) fun K' hK' => hK' _ _ _ _ (hK _ _ _ ?_)
  clear hK' K' hK K
  refine vc_seq ?_
  refine vc_seq ?_
  refine vc_go (by kernel_rfl) fun K hK => hK _ _ _ ?_
  clear hK K
  refine vc_cond (t := true) rfl (fun _ => ?_) (fun h => by cases h)
  refine vc_go (by kernel_rfl) fun K hK => hK _ _ _ ?_
  clear hK K
  refine vc_seq ?_
  refine vc_go (by kernel_rfl) fun K hK => hK _ _ _ ?_
  clear hK K
  exact vc_ret ⟨.inr rfl, rfl⟩

theorem p93b {m u s : Nat} (hm : m < 2 ^ 128) (hu : u < 2 ^ 64) (hs : s < 2 ^ 64) (h : ¬ m < s * u) : Pure 93 [fr m u, u64 s] (fr (m - s * u) u) := by
  have h36 : Pure 36 [wd m, wd (s * u)] _ := p36 m (s * u) hm (Nat.lt_of_lt_of_le (mul_lt hs hu) (by decide))
  rw [if_neg h] at h36
  refine pure_of Try.func93 rfl Try.ntmps93 (by kernel_rfl) rfl (by simp) rfl ?_
  refine vc_seq ?_
  refine vc_go (by kernel_rfl) fun K hK => hK _ _ _ ?_
  clear hK K
  refine vc_seq ?_
  refine vc_regD [(1, 5), (1, 10), (4, 10), (5, 10), (6, 10)] (by kernel_rfl) (by kernel_rfl) fun K hK => ?_
  refine runD_n (z := false) 5 (fun K' hK' => hK' _ _ _ _ ?_) (by decide)
  clear hK' K'
  refine runD_call (p33 hs hu) rfl rfl rfl rfl ?_
  refine runD_call (h36) rfl rfl rfl rfl ?_
  refine runD_end (z := false) fun K' hK' => hK' _ _ _ _ (hK _ _ _ ?_)
  clear hK' K' hK K
  refine vc_seq ?_
  refine vc_seq ?_
  refine vc_go (by kernel_rfl) fun K hK => hK _ _ _ ?_
  clear hK K
  refine vc_cond (t := false) rfl (fun h => by cases h) (fun _ => ?_)
  refine vc_skip ?_
  refine vc_seq ?_
  refine vc_go (by kernel_rfl) fun K hK => hK _ _ _ ?_
  clear hK K
  exact vc_ret ⟨.inr rfl, rfl⟩

theorem p93 {m u s : Nat} (hm : m < 2 ^ 128) (hu : u < 2 ^ 64) (hs : s < 2 ^ 64) : Pure 93 [fr m u, u64 s] (fr (m - s * u) u) := by
  by_cases h : m < s * u
  · exact p93a hm hu hs h
  · exact p93b hm hu hs h

end Go.Proofs.Ytdfkcijholopoaa.Vm
