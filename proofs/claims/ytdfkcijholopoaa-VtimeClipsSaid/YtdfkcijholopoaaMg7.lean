/- What the proofs stand on, in one text: Fb, Fc, Ga, Ta. -/
import Derived.Test.YtdfkcijholopoaaMg6
import Derived.Test.YtdfkcijholopoaaMg4
namespace Go.Proofs.Ytdfkcijholopoaa.Vm
open Go Go.RowKit
set_option maxRecDepth 10000
set_option linter.unusedSimpArgs false
set_option linter.unusedVariables false

theorem sc_one (a m : Nat) : sc a m 1 true = a * m := by
  rw [sc, Nat.div_one, Nat.mod_one, if_neg (fun h => Nat.lt_irrefl 0 h.2), Nat.add_zero]
theorem u64_ne {e : Int} (h : e ≠ 0) : (e != 0) = true := by simpa using h


theorem p91 {n w : Nat} (hn : n < 2 ^ 128) (hw : w < 2 ^ 64) (h : n * w < 2 ^ 128) : Pure 91 [wd n, u64 w] (wd (n * w)) := by
  have h1 := p23 (d := 1) hn hw (by decide)
  rw [scR_ok (by decide) (by rw [sc_one]; exact h), sc_one] at h1
  refine pure_of Try.func91 rfl Try.ntmps91 (by kernel_rfl) rfl (by simp) rfl ?_
  refine vc_seq ?_
  refine vc_go (by kernel_rfl) fun K hK => hK _ _ _ ?_
  clear hK K
  refine vc_seq ?_
  refine vc_reg (by kernel_rfl) fun K hK => ?_
  refine run_n (z := false) 2 (fun K' hK' => hK' _ _ _ ?_) (by decide)
  clear hK' K'
  refine run_call (h1) rfl rfl rfl rfl ?_
  refine run_end (z := false) fun K' hK' => hK' _ _ _ (hK _ _ _ ?_)
  clear hK' K' hK K
  refine vc_seq ?_
  refine vc_go (by kernel_rfl) fun K hK => hK _ _ _ ?_
  clear hK K
  exact vc_ret ⟨.inr rfl, rfl⟩

theorem p42n {a v b w : Nat} (hr : (rt a v && rt b w) = false) : Pure 42 [fr a v, fr b w] (.int .i64 0) := by
  have h90 := p90b a v b w
  rw [hr] at h90
  refine pure_of Try.func42 rfl Try.ntmps42 (by kernel_rfl) rfl (by simp) rfl ?_
  refine vc_seq ?_
  refine vc_go (by kernel_rfl) fun K hK => hK _ _ _ ?_
  clear hK K
  refine vc_seq ?_
  refine vc_seq ?_
  refine vc_reg (by kernel_rfl) fun K hK => ?_
  refine run_n (z := false) 3 (fun K' hK' => hK' _ _ _ ?_) (by decide)
  clear hK' K'
  refine run_ro (fun _ => (4, 0)) (h90) ?_ rfl rfl rfl rfl ?_
  · intro x hx
    simp only [List.mem_singleton] at hx
    subst hx
    exact ⟨_, _, _, rfl, fun i v hv => by rw [Nat.zero_add]; exact hv⟩
  refine run_end (z := false) fun K' hK' => hK' _ _ _ (hK _ _ _ ?_)
  clear hK' K' hK K
  refine vc_cond (t := true) rfl (fun _ => ?_) (fun h => by cases h)
  refine vc_seq ?_
  refine vc_go (by kernel_rfl) fun K hK => hK _ _ _ ?_
  clear hK K
  exact vc_ret ⟨.inr rfl, rfl⟩

theorem p42y {a v b w : Nat} (hra : rt a v = true) (hrb : rt b w = true) : Pure 42 [fr a v, fr b w] (.int .i64 (cmpW (a * w) (b * v))) := by
  have h90 := p90b a v b w
  rw [hra, hrb] at h90
  have ra := rt_w hra
  have rb := rt_w hrb
  have m1 : a * w < 2 ^ 128 := Nat.lt_trans (mul_lt ra.2.2 (show w < 2 ^ 16 by omega)) (by decide)
  have m2 : b * v < 2 ^ 128 := Nat.lt_trans (mul_lt rb.2.2 (show v < 2 ^ 16 by omega)) (by decide)
  refine pure_of Try.func42 rfl Try.ntmps42 (by kernel_rfl) rfl (by simp) rfl ?_
  refine vc_seq ?_
  refine vc_go (by kernel_rfl) fun K hK => hK _ _ _ ?_
  clear hK K
  refine vc_seq ?_
  refine vc_seq ?_
  refine vc_reg (by kernel_rfl) fun K hK => ?_
  refine run_n (z := false) 3 (fun K' hK' => hK' _ _ _ ?_) (by decide)
  clear hK' K'
  refine run_ro (fun _ => (4, 0)) (h90) ?_ rfl rfl rfl rfl ?_
  · intro x hx
    simp only [List.mem_singleton] at hx
    subst hx
    exact ⟨_, _, _, rfl, fun i v hv => by rw [Nat.zero_add]; exact hv⟩
  refine run_end (z := false) fun K' hK' => hK' _ _ _ (hK _ _ _ ?_)
  clear hK' K' hK K
  refine vc_cond (t := false) rfl (fun h => by cases h) (fun _ => ?_)
  refine vc_skip ?_
  refine vc_seq ?_
  refine vc_regD [(4, 6), (4, 8)] (by kernel_rfl) (by kernel_rfl) fun K hK => ?_
  refine runD_n (z := false) 4 (fun K' hK' => hK' _ _ _ _ ?_) (by decide)
  clear hK' K'
  refine runD_call (p91 (Nat.lt_trans ra.2.2 (by decide)) (by omega) m1) rfl rfl rfl rfl ?_
  refine runD_n (z := false) 4 (fun K' hK' => hK' _ _ _ _ ?_) (by decide)
  clear hK' K'
  refine runD_call (p91 (Nat.lt_trans rb.2.2 (by decide)) (by omega) m2) rfl rfl rfl rfl ?_
  refine runD_call (p29 _ _) rfl rfl rfl rfl ?_
  refine runD_end (z := false) fun K' hK' => hK' _ _ _ _ (hK _ _ _ ?_)
  clear hK' K' hK K
  exact vc_ret ⟨.inr rfl, rfl⟩

theorem p57y {n w : Nat} (hr : rt n w = true) : Pure 57 [fr n w] (.int .i64 0) := by
  have h90 := p90a n w
  rw [hr] at h90
  refine pure_of Try.func57 rfl Try.ntmps57 (by kernel_rfl) rfl (by simp) rfl ?_
  refine vc_seq ?_
  refine vc_go (by kernel_rfl) fun K hK => hK _ _ _ ?_
  clear hK K
  refine vc_seq ?_
  refine vc_seq ?_
  refine vc_reg (by kernel_rfl) fun K hK => ?_
  refine run_n (z := false) 2 (fun K' hK' => hK' _ _ _ ?_) (by decide)
  clear hK' K'
  refine run_ro (fun _ => (2, 0)) (h90) ?_ rfl rfl rfl rfl ?_
  · intro x hx
    simp only [List.mem_singleton] at hx
    subst hx
    exact ⟨_, _, _, rfl, fun i v hv => by rw [Nat.zero_add]; exact hv⟩
  refine run_end (z := false) fun K' hK' => hK' _ _ _ (hK _ _ _ ?_)
  clear hK' K' hK K
  refine vc_cond (t := false) rfl (fun h => by cases h) (fun _ => ?_)
  refine vc_skip ?_
  refine vc_seq ?_
  refine vc_go (by kernel_rfl) fun K hK => hK _ _ _ ?_
  clear hK K
  exact vc_ret ⟨.inr rfl, rfl⟩

theorem p57n {n w : Nat} (hr : rt n w = false) : Pure 57 [fr n w] (.int .i64 150) := by
  have h90 := p90a n w
  rw [hr] at h90
  refine pure_of Try.func57 rfl Try.ntmps57 (by kernel_rfl) rfl (by simp) rfl ?_
  refine vc_seq ?_
  refine vc_go (by kernel_rfl) fun K hK => hK _ _ _ ?_
  clear hK K
  refine vc_seq ?_
  refine vc_seq ?_
  refine vc_reg (by kernel_rfl) fun K hK => ?_
  refine run_n (z := false) 2 (fun K' hK' => hK' _ _ _ ?_) (by decide)
  clear hK' K'
  refine run_ro (fun _ => (2, 0)) (h90) ?_ rfl rfl rfl rfl ?_
  · intro x hx
    simp only [List.mem_singleton] at hx
    subst hx
    exact ⟨_, _, _, rfl, fun i v hv => by rw [Nat.zero_add]; exact hv⟩
  refine run_end (z := false) fun K' hK' => hK' _ _ _ (hK _ _ _ ?_)
  clear hK' K' hK K
  refine vc_cond (t := true) rfl (fun _ => ?_) (fun h => by cases h)
  refine vc_seq ?_
  refine vc_go (by kernel_rfl) fun K hK => hK _ _ _ ?_
  clear hK K
  exact vc_ret ⟨.inr rfl, rfl⟩

theorem p58y {n w : Nat} (hn : n < 2 ^ 64) (hr : wt w = true) : Pure 58 [u64 n, u64 w] (.tuple #[fr n w, .int .i64 0]) := by
  have h := p106 w
  rw [hr] at h
  refine pure_of Try.func58 rfl Try.ntmps58 (by kernel_rfl) rfl (by simp) rfl ?_
  refine vc_seq ?_
  refine vc_go (by kernel_rfl) fun K hK => hK _ _ _ ?_
  clear hK K
  refine vc_seq ?_
  refine vc_seq ?_
  refine vc_reg (by kernel_rfl) fun K hK => ?_
  refine run_n (z := false) 1 (fun K' hK' => hK' _ _ _ ?_) (by decide)
  clear hK' K'
  refine run_call (h) rfl rfl rfl rfl ?_
  refine run_end (z := false) fun K' hK' => hK' _ _ _ (hK _ _ _ ?_)
  clear hK' K' hK K
  refine vc_cond (t := false) rfl (fun h => by cases h) (fun _ => ?_)
  refine vc_skip ?_
  refine vc_seq ?_
  refine vc_reg (by kernel_rfl) fun K hK => ?_
  refine run_n (z := false) 1 (fun K' hK' => hK' _ _ _ ?_) (by decide)
  clear hK' K'
  refine run_call (p34w hn) rfl rfl rfl rfl ?_
  refine run_end (z := false) fun K' hK' => hK' _ _ _ (hK _ _ _ ?_)
  clear hK' K' hK K
  exact vc_ret ⟨.inr rfl, rfl⟩

theorem p58n {n w : Nat} (hn : n < 2 ^ 64) (hr : wt w = false) : Pure 58 [u64 n, u64 w] (.tuple #[fr 0 0, .int .i64 2]) := by
  have h := p106 w
  rw [hr] at h
  refine pure_of Try.func58 rfl Try.ntmps58 (by kernel_rfl) rfl (by simp) rfl ?_
  refine vc_seq ?_
  refine vc_go (by kernel_rfl) fun K hK => hK _ _ _ ?_
  clear hK K
  refine vc_seq ?_
  refine vc_seq ?_
  refine vc_reg (by kernel_rfl) fun K hK => ?_
  refine run_n (z := false) 1 (fun K' hK' => hK' _ _ _ ?_) (by decide)
  clear hK' K'
  refine run_call (h) rfl rfl rfl rfl ?_
  refine run_end (z := false) fun K' hK' => hK' _ _ _ (hK _ _ _ ?_)
  clear hK' K' hK K
  refine vc_cond (t := true) rfl (fun _ => ?_) (fun h => by cases h)
  refine vc_seq ?_
  refine vc_go (by kernel_rfl) fun K hK => hK _ _ _ ?_
  clear hK K
  exact vc_ret ⟨.inr rfl, rfl⟩

theorem p107e {x w m : Nat} {e : Int} (he : e ≠ 0) : Pure 107 [fr x w, wd m, .int .i64 e] (.tuple #[fr 0 0, .int .i64 131]) := by
  refine pure_of Try.func107 rfl Try.ntmps107 (by kernel_rfl) rfl (by simp) rfl ?_
  refine vc_seq ?_
  refine vc_go (by kernel_rfl) fun K hK => hK _ _ _ ?_
  clear hK K
  refine vc_seq ?_
  refine vc_seq ?_
  refine vc_reg (by kernel_rfl) fun K hK => ?_
  refine run_n (z := false) 3 (fun K' hK' => hK' _ _ _ ?_) (by decide)
  clear hK' K'
  refine vgo_known 10 (b := true) (bb (u64_ne he)) ?_
  refine run_end (z := false) fun K' hK' => hK' _ _ _ (hK _ _ _ ?_)
  clear hK' K' hK K
  refine vc_cond (t := true) rfl (fun _ => ?_) (fun h => by cases h)
  refine vc_seq ?_
  refine vc_go (by kernel_rfl) fun K hK => hK _ _ _ ?_
  clear hK K
  exact vc_ret ⟨.inr rfl, rfl⟩

theorem p107r {x w m : Nat} (hm : ¬ m < 2 ^ 100) : Pure 107 [fr x w, wd m, .int .i64 0] (.tuple #[fr 0 0, .int .i64 131]) := by
  have hb : decide (((m / 2 ^ 64 : Nat) : Int) ≥ 68719476736) = true := by rw [decide_eq_true_eq]; omega
  refine pure_of Try.func107 rfl Try.ntmps107 (by kernel_rfl) rfl (by simp) rfl ?_
  refine vc_seq ?_
  refine vc_go (by kernel_rfl) fun K hK => hK _ _ _ ?_
  clear hK K
  refine vc_seq ?_
  refine vc_seq ?_
  refine vc_go (by kernel_rfl) fun K hK => hK _ _ _ ?_
  clear hK K
  refine vc_cond (t := true) (bb hb) (fun _ => ?_) (fun h => by cases h)
  refine vc_seq ?_
  refine vc_go (by kernel_rfl) fun K hK => hK _ _ _ ?_
  clear hK K
  exact vc_ret ⟨.inr rfl, rfl⟩

theorem p107y {x w m : Nat} (hm : m < 2 ^ 100) : Pure 107 [fr x w, wd m, .int .i64 0] (.tuple #[fr m w, .int .i64 0]) := by
  have hb : decide (((m / 2 ^ 64 : Nat) : Int) ≥ 68719476736) = false := by rw [decide_eq_false_iff_not]; omega
  refine pure_of Try.func107 rfl Try.ntmps107 (by kernel_rfl) rfl (by simp) rfl ?_
  refine vc_seq ?_
  refine vc_go (by kernel_rfl) fun K hK => hK _ _ _ ?_
  clear hK K
  refine vc_seq ?_
  refine vc_seq ?_
  refine vc_go (by kernel_rfl) fun K hK => hK _ _ _ ?_
  clear hK K
  refine vc_cond (t := false) (bb hb) (fun h => by cases h) (fun _ => ?_)
  refine vc_skip ?_
  refine vc_seq ?_
  refine vc_go (by kernel_rfl) fun K hK => hK _ _ _ ?_
  clear hK K
  exact vc_ret ⟨.inr rfl, rfl⟩

theorem p63n {n w k : Nat} (hr : rt n w = false) : Pure 63 [fr n w, u64 k] (.tuple #[fr 0 0, .int .i64 150]) := by
  have h90 := p90a n w
  rw [hr] at h90
  refine pure_of Try.func63 rfl Try.ntmps63 (by kernel_rfl) rfl (by simp) rfl ?_
  refine vc_seq ?_
  refine vc_go (by kernel_rfl) fun K hK => hK _ _ _ ?_
  clear hK K
  refine vc_seq ?_
  refine vc_seq ?_
  refine vc_reg (by kernel_rfl) fun K hK => ?_
  refine run_n (z := false) 2 (fun K' hK' => hK' _ _ _ ?_) (by decide)
  clear hK' K'
  refine run_ro (fun _ => (3, 0)) (h90) ?_ rfl rfl rfl rfl ?_
  · intro x hx
    simp only [List.mem_singleton] at hx
    subst hx
    exact ⟨_, _, _, rfl, fun i v hv => by rw [Nat.zero_add]; exact hv⟩
  refine run_end (z := false) fun K' hK' => hK' _ _ _ (hK _ _ _ ?_)
  clear hK' K' hK K
  refine vc_cond (t := true) rfl (fun _ => ?_) (fun h => by cases h)
  refine vc_seq ?_
  refine vc_go (by kernel_rfl) fun K hK => hK _ _ _ ?_
  clear hK K
  exact vc_ret ⟨.inr rfl, rfl⟩

theorem p63y {n w k : Nat} (hr : rt n w = true) (hk : k < 2 ^ 64) (h : n + k < 2 ^ 100) : Pure 63 [fr n w, u64 k] (.tuple #[fr (n + k) w, .int .i64 0]) := by
  have h90 := p90a n w
  rw [hr] at h90
  have rn := rt_w hr
  have h30 : Pure 30 [wd n, wd k] _ := p30 n k (by omega) (by omega)
  rw [if_pos (by omega)] at h30
  refine pure_of Try.func63 rfl Try.ntmps63 (by kernel_rfl) rfl (by simp) rfl ?_
  refine vc_seq ?_
  refine vc_go (by kernel_rfl) fun K hK => hK _ _ _ ?_
  clear hK K
  refine vc_seq ?_
  refine vc_seq ?_
  refine vc_reg (by kernel_rfl) fun K hK => ?_
  refine run_n (z := false) 2 (fun K' hK' => hK' _ _ _ ?_) (by decide)
  clear hK' K'
  refine run_ro (fun _ => (3, 0)) (h90) ?_ rfl rfl rfl rfl ?_
  · intro x hx
    simp only [List.mem_singleton] at hx
    subst hx
    exact ⟨_, _, _, rfl, fun i v hv => by rw [Nat.zero_add]; exact hv⟩
  refine run_end (z := false) fun K' hK' => hK' _ _ _ (hK _ _ _ ?_)
  clear hK' K' hK K
  refine vc_cond (t := false) rfl (fun h => by cases h) (fun _ => ?_)
  refine vc_skip ?_
  refine vc_seq ?_
  refine vc_regD [(1, 3), (1, 8), (3, 8), (4, 8)] (by kernel_rfl) (by kernel_rfl) fun K hK => ?_
  refine runD_n (z := false) 3 (fun K' hK' => hK' _ _ _ _ ?_) (by decide)
  clear hK' K'
  refine runD_call (p34w hk) rfl rfl rfl rfl ?_
  refine runD_call (h30) rfl rfl rfl rfl ?_
  refine runD_end (z := false) fun K' hK' => hK' _ _ _ _ (hK _ _ _ ?_)
  clear hK' K' hK K
  refine vc_seq ?_
  refine vc_reg (by kernel_rfl) fun K hK => ?_
  refine run_n (z := false) 3 (fun K' hK' => hK' _ _ _ ?_) (by decide)
  clear hK' K'
  refine run_call (p107y h) rfl rfl rfl rfl ?_
  refine run_end (z := false) fun K' hK' => hK' _ _ _ (hK _ _ _ ?_)
  clear hK' K' hK K
  exact vc_ret ⟨.inr rfl, rfl⟩

theorem p63r {n w k : Nat} (hr : rt n w = true) (hk : k < 2 ^ 64) (h : ¬ n + k < 2 ^ 100) : Pure 63 [fr n w, u64 k] (.tuple #[fr 0 0, .int .i64 131]) := by
  have h90 := p90a n w
  rw [hr] at h90
  have rn := rt_w hr
  have h30 : Pure 30 [wd n, wd k] _ := p30 n k (by omega) (by omega)
  rw [if_pos (by omega)] at h30
  refine pure_of Try.func63 rfl Try.ntmps63 (by kernel_rfl) rfl (by simp) rfl ?_
  refine vc_seq ?_
  refine vc_go (by kernel_rfl) fun K hK => hK _ _ _ ?_
  clear hK K
  refine vc_seq ?_
  refine vc_seq ?_
  refine vc_reg (by kernel_rfl) fun K hK => ?_
  refine run_n (z := false) 2 (fun K' hK' => hK' _ _ _ ?_) (by decide)
  clear hK' K'
  refine run_ro (fun _ => (3, 0)) (h90) ?_ rfl rfl rfl rfl ?_
  · intro x hx
    simp only [List.mem_singleton] at hx
    subst hx
    exact ⟨_, _, _, rfl, fun i v hv => by rw [Nat.zero_add]; exact hv⟩
  refine run_end (z := false) fun K' hK' => hK' _ _ _ (hK _ _ _ ?_)
  clear hK' K' hK K
  refine vc_cond (t := false) rfl (fun h => by cases h) (fun _ => ?_)
  refine vc_skip ?_
  refine vc_seq ?_
  refine vc_regD [(1, 3), (1, 8), (3, 8), (4, 8)] (by kernel_rfl) (by kernel_rfl) fun K hK => ?_
  refine runD_n (z := false) 3 (fun K' hK' => hK' _ _ _ _ ?_) (by decide)
  clear hK' K'
  refine runD_call (p34w hk) rfl rfl rfl rfl ?_
  refine runD_call (h30) rfl rfl rfl rfl ?_
  refine runD_end (z := false) fun K' hK' => hK' _ _ _ _ (hK _ _ _ ?_)
  clear hK' K' hK K
  refine vc_seq ?_
  refine vc_reg (by kernel_rfl) fun K hK => ?_
  refine run_n (z := false) 3 (fun K' hK' => hK' _ _ _ ?_) (by decide)
  clear hK' K'
  refine run_call (p107r h) rfl rfl rfl rfl ?_
  refine run_end (z := false) fun K' hK' => hK' _ _ _ (hK _ _ _ ?_)
  clear hK' K' hK K
  exact vc_ret ⟨.inr rfl, rfl⟩

theorem p62n {n w k : Nat} (hr : rt n w = false) : Pure 62 [fr n w, u64 k] (.tuple #[fr 0 0, .int .i64 150]) := by
  have h90 := p90a n w
  rw [hr] at h90
  refine pure_of Try.func62 rfl Try.ntmps62 (by kernel_rfl) rfl (by simp) rfl ?_
  refine vc_seq ?_
  refine vc_go (by kernel_rfl) fun K hK => hK _ _ _ ?_
  clear hK K
  refine vc_seq ?_
  refine vc_seq ?_
  refine vc_reg (by kernel_rfl) fun K hK => ?_
  refine run_n (z := false) 2 (fun K' hK' => hK' _ _ _ ?_) (by decide)
  clear hK' K'
  refine run_ro (fun _ => (3, 0)) (h90) ?_ rfl rfl rfl rfl ?_
  · intro x hx
    simp only [List.mem_singleton] at hx
    subst hx
    exact ⟨_, _, _, rfl, fun i v hv => by rw [Nat.zero_add]; exact hv⟩
  refine run_end (z := false) fun K' hK' => hK' _ _ _ (hK _ _ _ ?_)
  clear hK' K' hK K
  refine vc_cond (t := true) rfl (fun _ => ?_) (fun h => by cases h)
  refine vc_seq ?_
  refine vc_go (by kernel_rfl) fun K hK => hK _ _ _ ?_
  clear hK K
  exact vc_ret ⟨.inr rfl, rfl⟩

theorem p62a {n w k : Nat} (hr : rt n w = true) (hk : k < 2 ^ 64) (h : n < k) : Pure 62 [fr n w, u64 k] (.tuple #[fr (n - k) w, .int .i64 0]) := by
  have h90 := p90a n w
  rw [hr] at h90
  have rn := rt_w hr
  have h36 : Pure 36 [wd n, wd k] _ := p36 n k (by omega) (by omega)
  rw [if_pos h] at h36
  have e0 : n - k = 0 := by omega
  rw [e0]
  refine pure_of Try.func62 rfl Try.ntmps62 (by kernel_rfl) rfl (by simp) rfl ?_
  refine vc_seq ?_
  refine vc_go (by kernel_rfl) fun K hK => hK _ _ _ ?_
  clear hK K
  refine vc_seq ?_
  refine vc_seq ?_
  refine vc_reg (by kernel_rfl) fun K hK => ?_
  refine run_n (z := false) 2 (fun K' hK' => hK' _ _ _ ?_) (by decide)
  clear hK' K'
  refine run_ro (fun _ => (3, 0)) (h90) ?_ rfl rfl rfl rfl ?_
  · intro x hx
    simp only [List.mem_singleton] at hx
    subst hx
    exact ⟨_, _, _, rfl, fun i v hv => by rw [Nat.zero_add]; exact hv⟩
  refine run_end (z := false) fun K' hK' => hK' _ _ _ (hK _ _ _ ?_)
  clear hK' K' hK K
  refine vc_cond (t := false) rfl (fun h => by cases h) (fun _ => ?_)
  refine vc_skip ?_
  refine vc_seq ?_
  refine vc_regD [(1, 3), (1, 8), (3, 8), (4, 8)] (by kernel_rfl) (by kernel_rfl) fun K hK => ?_
  refine runD_n (z := false) 3 (fun K' hK' => hK' _ _ _ _ ?_) (by decide)
  clear hK' K'
  refine runD_call (p34w hk) rfl rfl rfl rfl ?_
  refine runD_call (h36) rfl rfl rfl rfl ?_
  refine runD_end (z := false) fun K' hK' => hK' _ _ _ _ (hK _ _ _ ?_)
  clear hK' K' hK K
  refine vc_seq ?_
  refine vc_seq ?_
  refine vc_go (by kernel_rfl) fun K hK => hK _ _ _ ?_
  clear hK K
  refine vc_cond (t := true) rfl (fun _ => ?_) (fun h => by cases h)
  refine vc_go (by kernel_rfl) fun K hK => hK _ _ _ ?_
  clear hK K
  refine vc_seq ?_
  refine vc_go (by kernel_rfl) fun K hK => hK _ _ _ ?_
  clear hK K
  exact vc_ret ⟨.inr rfl, rfl⟩

theorem p62b {n w k : Nat} (hr : rt n w = true) (hk : k < 2 ^ 64) (h : ¬ n < k) : Pure 62 [fr n w, u64 k] (.tuple #[fr (n - k) w, .int .i64 0]) := by
  have h90 := p90a n w
  rw [hr] at h90
  have rn := rt_w hr
  have h36 : Pure 36 [wd n, wd k] _ := p36 n k (by omega) (by omega)
  rw [if_neg h] at h36
  refine pure_of Try.func62 rfl Try.ntmps62 (by kernel_rfl) rfl (by simp) rfl ?_
  refine vc_seq ?_
  refine vc_go (by kernel_rfl) fun K hK => hK _ _ _ ?_
  clear hK K
  refine vc_seq ?_
  refine vc_seq ?_
  refine vc_reg (by kernel_rfl) fun K hK => ?_
  refine run_n (z := false) 2 (fun K' hK' => hK' _ _ _ ?_) (by decide)
  clear hK' K'
  refine run_ro (fun _ => (3, 0)) (h90) ?_ rfl rfl rfl rfl ?_
  · intro x hx
    simp only [List.mem_singleton] at hx
    subst hx
    exact ⟨_, _, _, rfl, fun i v hv => by rw [Nat.zero_add]; exact hv⟩
  refine run_end (z := false) fun K' hK' => hK' _ _ _ (hK _ _ _ ?_)
  clear hK' K' hK K
  refine vc_cond (t := false) rfl (fun h => by cases h) (fun _ => ?_)
  refine vc_skip ?_
  refine vc_seq ?_
  refine vc_regD [(1, 3), (1, 8), (3, 8), (4, 8)] (by kernel_rfl) (by kernel_rfl) fun K hK => ?_
  refine runD_n (z := false) 3 (fun K' hK' => hK' _ _ _ _ ?_) (by decide)
  clear hK' K'
  refine runD_call (p34w hk) rfl rfl rfl rfl ?_
  refine runD_call (h36) rfl rfl rfl rfl ?_
  refine runD_end (z := false) fun K' hK' => hK' _ _ _ _ (hK _ _ _ ?_)
  clear hK' K' hK K
  refine vc_seq ?_
  refine vc_seq ?_
  refine vc_go (by kernel_rfl) fun K hK => hK _ _ _ ?_
  clear hK K
  refine vc_cond (t := false) rfl (fun h => by cases h) (fun _ => ?_)
  refine vc_skip ?_
  refine vc_seq ?_
  refine vc_go (by kernel_rfl) fun K hK => hK _ _ _ ?_
  clear hK K
  exact vc_ret ⟨.inr rfl, rfl⟩

theorem p62y {n w k : Nat} (hr : rt n w = true) (hk : k < 2 ^ 64) : Pure 62 [fr n w, u64 k] (.tuple #[fr (n - k) w, .int .i64 0]) := by
  by_cases h : n < k
  · exact p62a hr hk h
  · exact p62b hr hk h


theorem sc_bd {n w v : Nat} (hn : n < 2 ^ 100) (hw : w ≤ 65535) : sc n w v true < 2 ^ 128 := by
  have h1 : n * w < 2 ^ 100 * 2 ^ 16 := mul_lt hn (by omega)
  have h2 : n * w / v ≤ n * w := Nat.div_le_self _ _
  unfold sc
  generalize n * w / v = q at *
  generalize n * w = p at *
  split <;> omega


theorem p61n {n v w : Nat} (hr : rt n v = false) : Pure 61 [fr n v, u64 w] (.tuple #[fr 0 0, .int .i64 150]) := by
  have h90 := p90a n v
  rw [hr] at h90
  refine pure_of Try.func61 rfl Try.ntmps61 (by kernel_rfl) rfl (by simp) rfl ?_
  refine vc_seq ?_
  refine vc_go (by kernel_rfl) fun K hK => hK _ _ _ ?_
  clear hK K
  refine vc_seq ?_
  refine vc_block ?_
  refine vc_seq ?_
  refine vc_reg (by kernel_rfl) fun K hK => ?_
  refine run_n (z := false) 2 (fun K' hK' => hK' _ _ _ ?_) (by decide)
  clear hK' K'
  refine run_ro (fun _ => (3, 0)) (h90) ?_ rfl rfl rfl rfl ?_
  · intro x hx
    simp only [List.mem_singleton] at hx
    subst hx
    exact ⟨_, _, _, rfl, fun i v hv => by rw [Nat.zero_add]; exact hv⟩
  refine run_end (z := false) fun K' hK' => hK' _ _ _ (hK _ _ _ ?_)
  clear hK' K' hK K
  refine vc_cond (t := true) rfl (fun _ => ?_) (fun h => by cases h)
  refine vc_seq ?_
  refine vc_go (by kernel_rfl) fun K hK => hK _ _ _ ?_
  clear hK K
  exact vc_ret ⟨.inr rfl, rfl⟩

theorem p61w {n v w : Nat} (hr : rt n v = true) (hw : wt w = false) : Pure 61 [fr n v, u64 w] (.tuple #[fr 0 0, .int .i64 2]) := by
  have h90 := p90a n v
  rw [hr] at h90
  have h106 := p106 w
  rw [hw] at h106
  refine pure_of Try.func61 rfl Try.ntmps61 (by kernel_rfl) rfl (by simp) rfl ?_
  refine vc_seq ?_
  refine vc_go (by kernel_rfl) fun K hK => hK _ _ _ ?_
  clear hK K
  refine vc_seq ?_
  refine vc_block ?_
  refine vc_seq ?_
  refine vc_reg (by kernel_rfl) fun K hK => ?_
  refine run_n (z := false) 2 (fun K' hK' => hK' _ _ _ ?_) (by decide)
  clear hK' K'
  refine run_ro (fun _ => (3, 0)) (h90) ?_ rfl rfl rfl rfl ?_
  · intro x hx
    simp only [List.mem_singleton] at hx
    subst hx
    exact ⟨_, _, _, rfl, fun i v hv => by rw [Nat.zero_add]; exact hv⟩
  refine run_end (z := false) fun K' hK' => hK' _ _ _ (hK _ _ _ ?_)
  clear hK' K' hK K
  refine vc_cond (t := false) rfl (fun h => by cases h) (fun _ => ?_)
  refine vc_seq ?_
  refine vc_reg (by kernel_rfl) fun K hK => ?_
  refine run_n (z := false) 1 (fun K' hK' => hK' _ _ _ ?_) (by decide)
  clear hK' K'
  refine run_call (h106) rfl rfl rfl rfl ?_
  refine run_end (z := false) fun K' hK' => hK' _ _ _ (hK _ _ _ ?_)
  clear hK' K' hK K
  refine vc_cond (t := true) rfl (fun _ => ?_) (fun h => by cases h)
  refine vc_seq ?_
  refine vc_go (by kernel_rfl) fun K hK => hK _ _ _ ?_
  clear hK K
  exact vc_ret ⟨.inr rfl, rfl⟩

theorem p61y {n v w : Nat} (hr : rt n v = true) (hw : wt w = true) (h : sc n w v true < 2 ^ 100) : Pure 61 [fr n v, u64 w] (.tuple #[fr (sc n w v true) w, .int .i64 0]) := by
  have h90 := p90a n v
  rw [hr] at h90
  have h106 := p106 w
  rw [hw] at h106
  have rn := rt_w hr
  have rw2 := wt_w hw
  have h23 := p23 (a := n) (m := w) (d := v) (by omega) (by omega) (by omega)
  rw [scR_ok (by omega) (sc_bd rn.2.2 rw2.2)] at h23
  have h107 := p107y (x := 0) (w := w) h
  refine pure_of Try.func61 rfl Try.ntmps61 (by kernel_rfl) rfl (by simp) rfl ?_
  refine vc_seq ?_
  refine vc_go (by kernel_rfl) fun K hK => hK _ _ _ ?_
  clear hK K
  refine vc_seq ?_
  refine vc_block ?_
  refine vc_seq ?_
  refine vc_reg (by kernel_rfl) fun K hK => ?_
  refine run_n (z := false) 2 (fun K' hK' => hK' _ _ _ ?_) (by decide)
  clear hK' K'
  refine run_ro (fun _ => (3, 0)) (h90) ?_ rfl rfl rfl rfl ?_
  · intro x hx
    simp only [List.mem_singleton] at hx
    subst hx
    exact ⟨_, _, _, rfl, fun i v hv => by rw [Nat.zero_add]; exact hv⟩
  refine run_end (z := false) fun K' hK' => hK' _ _ _ (hK _ _ _ ?_)
  clear hK' K' hK K
  refine vc_cond (t := false) rfl (fun h => by cases h) (fun _ => ?_)
  refine vc_seq ?_
  refine vc_reg (by kernel_rfl) fun K hK => ?_
  refine run_n (z := false) 1 (fun K' hK' => hK' _ _ _ ?_) (by decide)
  clear hK' K'
  refine run_call (h106) rfl rfl rfl rfl ?_
  refine run_end (z := false) fun K' hK' => hK' _ _ _ (hK _ _ _ ?_)
  clear hK' K' hK K
  refine vc_cond (t := false) rfl (fun h => by cases h) (fun _ => ?_)
  refine vc_skip ?_
  refine vc_seq ?_
  refine vc_reg (by kernel_rfl) fun K hK => ?_
  refine run_n (z := false) 5 (fun K' hK' => hK' _ _ _ ?_) (by decide)
  clear hK' K'
  refine run_call (h23) rfl rfl rfl rfl ?_
  refine run_end (z := false) fun K' hK' => hK' _ _ _ (hK _ _ _ ?_)
  clear hK' K' hK K
  refine vc_seq ?_
  refine vc_reg (by kernel_rfl) fun K hK => ?_
  refine run_n (z := false) 4 (fun K' hK' => hK' _ _ _ ?_) (by decide)
  clear hK' K'
  refine run_call (h107) rfl rfl rfl rfl ?_
  refine run_end (z := false) fun K' hK' => hK' _ _ _ (hK _ _ _ ?_)
  clear hK' K' hK K
  exact vc_ret ⟨.inr rfl, rfl⟩

theorem p61r {n v w : Nat} (hr : rt n v = true) (hw : wt w = true) (h : ¬ sc n w v true < 2 ^ 100) : Pure 61 [fr n v, u64 w] (.tuple #[fr 0 0, .int .i64 131]) := by
  have h90 := p90a n v
  rw [hr] at h90
  have h106 := p106 w
  rw [hw] at h106
  have rn := rt_w hr
  have rw2 := wt_w hw
  have h23 := p23 (a := n) (m := w) (d := v) (by omega) (by omega) (by omega)
  rw [scR_ok (by omega) (sc_bd rn.2.2 rw2.2)] at h23
  have h107 := p107r (x := 0) (w := w) h
  refine pure_of Try.func61 rfl Try.ntmps61 (by kernel_rfl) rfl (by simp) rfl ?_
  refine vc_seq ?_
  refine vc_go (by kernel_rfl) fun K hK => hK _ _ _ ?_
  clear hK K
  refine vc_seq ?_
  refine vc_block ?_
  refine vc_seq ?_
  refine vc_reg (by kernel_rfl) fun K hK => ?_
  refine run_n (z := false) 2 (fun K' hK' => hK' _ _ _ ?_) (by decide)
  clear hK' K'
  refine run_ro (fun _ => (3, 0)) (h90) ?_ rfl rfl rfl rfl ?_
  · intro x hx
    simp only [List.mem_singleton] at hx
    subst hx
    exact ⟨_, _, _, rfl, fun i v hv => by rw [Nat.zero_add]; exact hv⟩
  refine run_end (z := false) fun K' hK' => hK' _ _ _ (hK _ _ _ ?_)
  clear hK' K' hK K
  refine vc_cond (t := false) rfl (fun h => by cases h) (fun _ => ?_)
  refine vc_seq ?_
  refine vc_reg (by kernel_rfl) fun K hK => ?_
  refine run_n (z := false) 1 (fun K' hK' => hK' _ _ _ ?_) (by decide)
  clear hK' K'
  refine run_call (h106) rfl rfl rfl rfl ?_
  refine run_end (z := false) fun K' hK' => hK' _ _ _ (hK _ _ _ ?_)
  clear hK' K' hK K
  refine vc_cond (t := false) rfl (fun h => by cases h) (fun _ => ?_)
  refine vc_skip ?_
  refine vc_seq ?_
  refine vc_reg (by kernel_rfl) fun K hK => ?_
  refine run_n (z := false) 5 (fun K' hK' => hK' _ _ _ ?_) (by decide)
  clear hK' K'
  refine run_call (h23) rfl rfl rfl rfl ?_
  refine run_end (z := false) fun K' hK' => hK' _ _ _ (hK _ _ _ ?_)
  clear hK' K' hK K
  refine vc_seq ?_
  refine vc_reg (by kernel_rfl) fun K hK => ?_
  refine run_n (z := false) 4 (fun K' hK' => hK' _ _ _ ?_) (by decide)
  clear hK' K'
  refine run_call (h107) rfl rfl rfl rfl ?_
  refine run_end (z := false) fun K' hK' => hK' _ _ _ (hK _ _ _ ?_)
  clear hK' K' hK K
  exact vc_ret ⟨.inr rfl, rfl⟩

theorem p60n {n w : Nat} (hr : rt n w = false) : Pure 60 [fr n w] (.tuple #[wd 0, .int .i64 150]) := by
  have h90 := p90a n w
  rw [hr] at h90
  refine pure_of Try.func60 rfl Try.ntmps60 (by kernel_rfl) rfl (by simp) rfl ?_
  refine vc_seq ?_
  refine vc_go (by kernel_rfl) fun K hK => hK _ _ _ ?_
  clear hK K
  refine vc_seq ?_
  refine vc_seq ?_
  refine vc_reg (by kernel_rfl) fun K hK => ?_
  refine run_n (z := false) 2 (fun K' hK' => hK' _ _ _ ?_) (by decide)
  clear hK' K'
  refine run_ro (fun _ => (3, 0)) (h90) ?_ rfl rfl rfl rfl ?_
  · intro x hx
    simp only [List.mem_singleton] at hx
    subst hx
    exact ⟨_, _, _, rfl, fun i v hv => by rw [Nat.zero_add]; exact hv⟩
  refine run_end (z := false) fun K' hK' => hK' _ _ _ (hK _ _ _ ?_)
  clear hK' K' hK K
  refine vc_cond (t := true) rfl (fun _ => ?_) (fun h => by cases h)
  refine vc_seq ?_
  refine vc_go (by kernel_rfl) fun K hK => hK _ _ _ ?_
  clear hK K
  exact vc_ret ⟨.inr rfl, rfl⟩

theorem p60y {n w : Nat} (hr : rt n w = true) : Pure 60 [fr n w] (.tuple #[wd (n / w), .int .i64 0]) := by
  have h90 := p90a n w
  rw [hr] at h90
  have rn := rt_w hr
  have h22 := p22 (a := n) (d := w) (by omega) (by omega)
  rw [div3_pos (by omega)] at h22
  refine pure_of Try.func60 rfl Try.ntmps60 (by kernel_rfl) rfl (by simp) rfl ?_
  refine vc_seq ?_
  refine vc_go (by kernel_rfl) fun K hK => hK _ _ _ ?_
  clear hK K
  refine vc_seq ?_
  refine vc_seq ?_
  refine vc_reg (by kernel_rfl) fun K hK => ?_
  refine run_n (z := false) 2 (fun K' hK' => hK' _ _ _ ?_) (by decide)
  clear hK' K'
  refine run_ro (fun _ => (3, 0)) (h90) ?_ rfl rfl rfl rfl ?_
  · intro x hx
    simp only [List.mem_singleton] at hx
    subst hx
    exact ⟨_, _, _, rfl, fun i v hv => by rw [Nat.zero_add]; exact hv⟩
  refine run_end (z := false) fun K' hK' => hK' _ _ _ (hK _ _ _ ?_)
  clear hK' K' hK K
  refine vc_cond (t := false) rfl (fun h => by cases h) (fun _ => ?_)
  refine vc_skip ?_
  refine vc_seq ?_
  refine vc_reg (by kernel_rfl) fun K hK => ?_
  refine run_n (z := false) 4 (fun K' hK' => hK' _ _ _ ?_) (by decide)
  clear hK' K'
  refine run_call (h22) rfl rfl rfl rfl ?_
  refine run_end (z := false) fun K' hK' => hK' _ _ _ (hK _ _ _ ?_)
  clear hK' K' hK K
  refine vc_seq ?_
  refine vc_go (by kernel_rfl) fun K hK => hK _ _ _ ?_
  clear hK K
  exact vc_ret ⟨.inr rfl, rfl⟩

theorem p93a {m u s : Nat} (hm : m < 2 ^ 128) (hu : u < 2 ^ 64) (hs : s < 2 ^ 64) (h : m < s * u) : Pure 93 [fr m u, u64 s] (fr (m - s * u) u) := by
  have h36 : Pure 36 [wd m, wd (s * u)] _ := p36 m (s * u) hm (Nat.lt_of_lt_of_le (mul_lt hs hu) (by decide))
  rw [if_pos h] at h36
  have e0 : m - s * u = 0 := by omega
  rw [e0]
  refine pure_of Try.func93 rfl Try.ntmps93 (by kernel_rfl) rfl (by simp) rfl ?_
  refine vc_seq ?_
  refine vc_go (by kernel_rfl) fun K hK => hK _ _ _ ?_
  clear hK K
  refine vc_seq ?_
  refine vc_regD [(1, 5), (1, 10), (4, 10), (5, 10), (6, 10)] (by kernel_rfl) (by kernel_rfl) fun K hK => ?_
  refine runD_n (z := false) 5 (fun K' hK' => hK' _ _ _ _ ?_) (by decide)
  clear hK' K'
  refine runD_call (p33 hs hu) rfl rfl rfl rfl ?_
  refine runD_call (h36) rfl rfl rfl rfl ?_
  refine runD_end (z := false) fun K' hK' => hK' _ _ _ _ (hK _ _ _ ?_)
  clear hK' K' hK K
  refine vc_seq ?_
  refine vc_seq ?_
  refine vc_go (by kernel_rfl) fun K hK => hK _ _ _ ?_
  clear hK K
  refine vc_cond (t := true) rfl (fun _ => ?_) (fun h => by cases h)
  refine vc_go (by kernel_rfl) fun K hK => hK _ _ _ ?_
  clear hK K
  refine vc_seq ?_
  refine vc_go (by kernel_rfl) fun K hK => hK _ _ _ ?_
  clear hK K
  exact vc_ret ⟨.inr rfl, rfl⟩

theorem p93b {m u s : Nat} (hm : m < 2 ^ 128) (hu : u < 2 ^ 64) (hs : s < 2 ^ 64) (h : ¬ m < s * u) : Pure 93 [fr m u, u64 s] (fr (m - s * u) u) := by
  have h36 : Pure 36 [wd m, wd (s * u)] _ := p36 m (s * u) hm (Nat.lt_of_lt_of_le (mul_lt hs hu) (by decide))
  rw [if_neg h] at h36
  refine pure_of Try.func93 rfl Try.ntmps93 (by kernel_rfl) rfl (by simp) rfl ?_
  refine vc_seq ?_
  refine vc_go (by kernel_rfl) fun K hK => hK _ _ _ ?_
  clear hK K
  refine vc_seq ?_
  refine vc_regD [(1, 5), (1, 10), (4, 10), (5, 10), (6, 10)] (by kernel_rfl) (by kernel_rfl) fun K hK => ?_
  refine runD_n (z := false) 5 (fun K' hK' => hK' _ _ _ _ ?_) (by decide)
  clear hK' K'
  refine runD_call (p33 hs hu) rfl rfl rfl rfl ?_
  refine runD_call (h36) rfl rfl rfl rfl ?_
  refine runD_end (z := false) fun K' hK' => hK' _ _ _ _ (hK _ _ _ ?_)
  clear hK' K' hK K
  refine vc_seq ?_
  refine vc_seq ?_
  refine vc_go (by kernel_rfl) fun K hK => hK _ _ _ ?_
  clear hK K
  refine vc_cond (t := false) rfl (fun h => by cases h) (fun _ => ?_)
  refine vc_skip ?_
  refine vc_seq ?_
  refine vc_go (by kernel_rfl) fun K hK => hK _ _ _ ?_
  clear hK K
  exact vc_ret ⟨.inr rfl, rfl⟩

theorem p93 {m u s : Nat} (hm : m < 2 ^ 128) (hu : u < 2 ^ 64) (hs : s < 2 ^ 64) : Pure 93 [fr m u, u64 s] (fr (m - s * u) u) := by
  by_cases h : m < s * u
  · exact p93a hm hu hs h
  · exact p93b hm hu hs h

end Go.Proofs.Ytdfkcijholopoaa.Vm
namespace Go.Proofs.Ytdfkcijholopoaa.Vm
open Go Go.RowKit
set_option maxRecDepth 10000
set_option linter.unusedSimpArgs false
set_option linter.unusedVariables false

/-- Is n over w more than s below m over u? -/
def bh (n w m u s : Nat) : Bool := decide (n * u < (m - s * u) * w)
theorem rt_less {m u : Nat} (x : Nat) (h : rt m u = true) : rt (m - x) u = true := by
  have := rt_w h
  rw [rt, decide_eq_true_eq]; omega
theorem cmpW_bh (a b : Nat) : decide (cmpW a b < 0) = decide (a < b) := by
  rw [Bool.eq_iff_iff, decide_eq_true_eq, decide_eq_true_eq, cmpW_lt]


theorem p44n {n w m u s : Nat} (hr : (rt n w && rt m u) = false) : Pure 44 [fr n w, fr m u, u64 s] (.bool false) := by
  have h90 := p90b n w m u
  rw [hr] at h90
  refine pure_of Try.func44 rfl Try.ntmps44 (by kernel_rfl) rfl (by simp) rfl ?_
  refine vc_seq ?_
  refine vc_go (by kernel_rfl) fun K hK => hK _ _ _ ?_
  clear hK K
  refine vc_seq ?_
  refine vc_regD [(5, 8)] (by kernel_rfl) (by kernel_rfl) fun K hK => ?_
  refine runD_n (z := false) 3 (fun K' hK' => hK' _ _ _ _ ?_) (by decide)
  clear hK' K'
  refine runD_ro (fun _ => (4, 0)) (h90) ?_ rfl rfl rfl rfl rfl ?_
  · intro x hx
    simp only [List.mem_singleton] at hx
    subst hx
    exact ⟨_, _, _, rfl, fun i v hv => by rw [Nat.zero_add]; exact hv⟩
  refine runD_n (z := false) 4 (fun K' hK' => hK' _ _ _ _ ?_) (by decide)
  clear hK' K'
  skip
  skip
  refine runD_end (z := false) fun K' hK' => hK' _ _ _ _ (hK _ _ _ ?_)
  clear hK' K' hK K
  exact vc_ret ⟨.inr rfl, rfl⟩

theorem p44y {n w m u s : Nat} (hra : rt n w = true) (hrb : rt m u = true) (hs : s < 2 ^ 64) : Pure 44 [fr n w, fr m u, u64 s] (.bool (bh n w m u s)) := by
  have h90 := p90b n w m u
  rw [hra, hrb] at h90
  have rm := rt_w hrb
  refine pure_of Try.func44 rfl Try.ntmps44 (by kernel_rfl) rfl (by simp) rfl ?_
  refine vc_seq ?_
  refine vc_go (by kernel_rfl) fun K hK => hK _ _ _ ?_
  clear hK K
  refine vc_seq ?_
  refine vc_regD [(5, 8)] (by kernel_rfl) (by kernel_rfl) fun K hK => ?_
  refine runD_n (z := false) 3 (fun K' hK' => hK' _ _ _ _ ?_) (by decide)
  clear hK' K'
  refine runD_ro (fun _ => (4, 0)) (h90) ?_ rfl rfl rfl rfl rfl ?_
  · intro x hx
    simp only [List.mem_singleton] at hx
    subst hx
    exact ⟨_, _, _, rfl, fun i v hv => by rw [Nat.zero_add]; exact hv⟩
  refine runD_n (z := false) 4 (fun K' hK' => hK' _ _ _ _ ?_) (by decide)
  clear hK' K'
  refine runD_call (p93 (by omega) (by omega) hs) rfl rfl rfl rfl ?_
  refine runD_call (p42y hra (rt_less (s * u) hrb)) rfl rfl rfl rfl ?_
  refine runD_end (z := false) fun K' hK' => hK' _ _ _ _ (hK _ _ _ ?_)
  clear hK' K' hK K
  refine vc_ret ⟨.inr rfl, ?_⟩
  exact Eq.trans (b := some (.bool _)) rfl (fin_bb (cmpW_bh _ _))

theorem p67n {n w m u s : Nat} (hr : (rt n w && rt m u) = false) : Pure 67 [fr n w, fr m u, u64 s] (.tuple #[fr 0 0, .int .i64 150]) := by
  have h90 := p90b n w m u
  rw [hr] at h90
  refine pure_of Try.func67 rfl Try.ntmps67 (by kernel_rfl) rfl (by simp) rfl ?_
  refine vc_seq ?_
  refine vc_go (by kernel_rfl) fun K hK => hK _ _ _ ?_
  clear hK K
  refine vc_seq ?_
  refine vc_block ?_
  refine vc_seq ?_
  refine vc_reg (by kernel_rfl) fun K hK => ?_
  refine run_n (z := false) 3 (fun K' hK' => hK' _ _ _ ?_) (by decide)
  clear hK' K'
  refine run_ro (fun _ => (5, 0)) (h90) ?_ rfl rfl rfl rfl ?_
  · intro x hx
    simp only [List.mem_singleton] at hx
    subst hx
    exact ⟨_, _, _, rfl, fun i v hv => by rw [Nat.zero_add]; exact hv⟩
  refine run_end (z := false) fun K' hK' => hK' _ _ _ (hK _ _ _ ?_)
  clear hK' K' hK K
  refine vc_cond (t := true) rfl (fun _ => ?_) (fun h => by cases h)
  refine vc_seq ?_
  refine vc_go (by kernel_rfl) fun K hK => hK _ _ _ ?_
  clear hK K
  exact vc_ret ⟨.inr rfl, rfl⟩

theorem p67s {n w m u s : Nat} (hra : rt n w = true) (hrb : rt m u = true) (hs : s < 2 ^ 64) (hb : bh n w m u s = false) : Pure 67 [fr n w, fr m u, u64 s] (.tuple #[fr n w, .int .i64 0]) := by
  have h90 := p90b n w m u
  rw [hra, hrb] at h90
  have rm := rt_w hrb
  have h44 := p44y hra hrb hs
  rw [hb] at h44
  refine pure_of Try.func67 rfl Try.ntmps67 (by kernel_rfl) rfl (by simp) rfl ?_
  refine vc_seq ?_
  refine vc_go (by kernel_rfl) fun K hK => hK _ _ _ ?_
  clear hK K
  refine vc_seq ?_
  refine vc_block ?_
  refine vc_seq ?_
  refine vc_reg (by kernel_rfl) fun K hK => ?_
  refine run_n (z := false) 3 (fun K' hK' => hK' _ _ _ ?_) (by decide)
  clear hK' K'
  refine run_ro (fun _ => (5, 0)) (h90) ?_ rfl rfl rfl rfl ?_
  · intro x hx
    simp only [List.mem_singleton] at hx
    subst hx
    exact ⟨_, _, _, rfl, fun i v hv => by rw [Nat.zero_add]; exact hv⟩
  refine run_end (z := false) fun K' hK' => hK' _ _ _ (hK _ _ _ ?_)
  clear hK' K' hK K
  refine vc_cond (t := false) rfl (fun h => by cases h) (fun _ => ?_)
  refine vc_seq ?_
  refine vc_reg (by kernel_rfl) fun K hK => ?_
  refine run_n (z := false) 3 (fun K' hK' => hK' _ _ _ ?_) (by decide)
  clear hK' K'
  refine run_call (h44) rfl rfl rfl rfl ?_
  refine run_end (z := false) fun K' hK' => hK' _ _ _ (hK _ _ _ ?_)
  clear hK' K' hK K
  refine vc_cond (t := true) rfl (fun _ => ?_) (fun h => by cases h)
  refine vc_seq ?_
  refine vc_go (by kernel_rfl) fun K hK => hK _ _ _ ?_
  clear hK K
  exact vc_ret ⟨.inr rfl, rfl⟩

theorem p67y {n w m u s : Nat} (hra : rt n w = true) (hrb : rt m u = true) (hs : s < 2 ^ 64) (hb : bh n w m u s = true) (h : sc (m - s * u) w u true < 2 ^ 100) : Pure 67 [fr n w, fr m u, u64 s] (.tuple #[fr (sc (m - s * u) w u true) w, .int .i64 0]) := by
  have h90 := p90b n w m u
  rw [hra, hrb] at h90
  have rm := rt_w hrb
  have h44 := p44y hra hrb hs
  rw [hb] at h44
  refine pure_of Try.func67 rfl Try.ntmps67 (by kernel_rfl) rfl (by simp) rfl ?_
  refine vc_seq ?_
  refine vc_go (by kernel_rfl) fun K hK => hK _ _ _ ?_
  clear hK K
  refine vc_seq ?_
  refine vc_block ?_
  refine vc_seq ?_
  refine vc_reg (by kernel_rfl) fun K hK => ?_
  refine run_n (z := false) 3 (fun K' hK' => hK' _ _ _ ?_) (by decide)
  clear hK' K'
  refine run_ro (fun _ => (5, 0)) (h90) ?_ rfl rfl rfl rfl ?_
  · intro x hx
    simp only [List.mem_singleton] at hx
    subst hx
    exact ⟨_, _, _, rfl, fun i v hv => by rw [Nat.zero_add]; exact hv⟩
  refine run_end (z := false) fun K' hK' => hK' _ _ _ (hK _ _ _ ?_)
  clear hK' K' hK K
  refine vc_cond (t := false) rfl (fun h => by cases h) (fun _ => ?_)
  refine vc_seq ?_
  refine vc_reg (by kernel_rfl) fun K hK => ?_
  refine run_n (z := false) 3 (fun K' hK' => hK' _ _ _ ?_) (by decide)
  clear hK' K'
  refine run_call (h44) rfl rfl rfl rfl ?_
  refine run_end (z := false) fun K' hK' => hK' _ _ _ (hK _ _ _ ?_)
  clear hK' K' hK K
  refine vc_cond (t := false) rfl (fun h => by cases h) (fun _ => ?_)
  refine vc_skip ?_
  refine vc_seq ?_
  refine vc_regD [(2, 4)] (by kernel_rfl) (by kernel_rfl) fun K hK => ?_
  refine runD_n (z := false) 2 (fun K' hK' => hK' _ _ _ _ ?_) (by decide)
  clear hK' K'
  refine runD_call (p93 (by omega) (by omega) hs) rfl rfl rfl rfl ?_
  refine runD_n (z := false) 2 (fun K' hK' => hK' _ _ _ _ ?_) (by decide)
  clear hK' K'
  refine runD_call (p61y (rt_less (s * u) hrb) (rt_wt hra) h) rfl rfl rfl rfl ?_
  refine runD_end (z := false) fun K' hK' => hK' _ _ _ _ (hK _ _ _ ?_)
  clear hK' K' hK K
  exact vc_ret ⟨.inr rfl, rfl⟩

theorem p67r {n w m u s : Nat} (hra : rt n w = true) (hrb : rt m u = true) (hs : s < 2 ^ 64) (hb : bh n w m u s = true) (h : ¬ sc (m - s * u) w u true < 2 ^ 100) : Pure 67 [fr n w, fr m u, u64 s] (.tuple #[fr 0 0, .int .i64 131]) := by
  have h90 := p90b n w m u
  rw [hra, hrb] at h90
  have rm := rt_w hrb
  have h44 := p44y hra hrb hs
  rw [hb] at h44
  refine pure_of Try.func67 rfl Try.ntmps67 (by kernel_rfl) rfl (by simp) rfl ?_
  refine vc_seq ?_
  refine vc_go (by kernel_rfl) fun K hK => hK _ _ _ ?_
  clear hK K
  refine vc_seq ?_
  refine vc_block ?_
  refine vc_seq ?_
  refine vc_reg (by kernel_rfl) fun K hK => ?_
  refine run_n (z := false) 3 (fun K' hK' => hK' _ _ _ ?_) (by decide)
  clear hK' K'
  refine run_ro (fun _ => (5, 0)) (h90) ?_ rfl rfl rfl rfl ?_
  · intro x hx
    simp only [List.mem_singleton] at hx
    subst hx
    exact ⟨_, _, _, rfl, fun i v hv => by rw [Nat.zero_add]; exact hv⟩
  refine run_end (z := false) fun K' hK' => hK' _ _ _ (hK _ _ _ ?_)
  clear hK' K' hK K
  refine vc_cond (t := false) rfl (fun h => by cases h) (fun _ => ?_)
  refine vc_seq ?_
  refine vc_reg (by kernel_rfl) fun K hK => ?_
  refine run_n (z := false) 3 (fun K' hK' => hK' _ _ _ ?_) (by decide)
  clear hK' K'
  refine run_call (h44) rfl rfl rfl rfl ?_
  refine run_end (z := false) fun K' hK' => hK' _ _ _ (hK _ _ _ ?_)
  clear hK' K' hK K
  refine vc_cond (t := false) rfl (fun h => by cases h) (fun _ => ?_)
  refine vc_skip ?_
  refine vc_seq ?_
  refine vc_regD [(2, 4)] (by kernel_rfl) (by kernel_rfl) fun K hK => ?_
  refine runD_n (z := false) 2 (fun K' hK' => hK' _ _ _ _ ?_) (by decide)
  clear hK' K'
  refine runD_call (p93 (by omega) (by omega) hs) rfl rfl rfl rfl ?_
  refine runD_n (z := false) 2 (fun K' hK' => hK' _ _ _ _ ?_) (by decide)
  clear hK' K'
  refine runD_call (p61r (rt_less (s * u) hrb) (rt_wt hra) h) rfl rfl rfl rfl ?_
  refine runD_end (z := false) fun K' hK' => hK' _ _ _ _ (hK _ _ _ ?_)
  clear hK' K' hK K
  exact vc_ret ⟨.inr rfl, rfl⟩

theorem rt_hi {n w : Nat} (h : wt w = true) : decide (((n / 2 ^ 64 : Nat) : Int) < 68719476736) = rt n w := by
  have := wt_w h
  rw [rt, Bool.eq_iff_iff, decide_eq_true_eq, decide_eq_true_eq]; omega
theorem rt_no {n w : Nat} (h : wt w = false) : rt n w = false := rt_bad (by rw [h]; rfl)


theorem p55 (n w : Nat) : Pure 55 [fr n w] (.bool (rt n w)) := by
  refine pure_of Try.func55 rfl Try.ntmps55 (by kernel_rfl) rfl (by simp) rfl ?_
  refine vc_seq ?_
  refine vc_go (by kernel_rfl) fun K hK => hK _ _ _ ?_
  clear hK K
  refine vc_seq ?_
  refine vc_reg (by kernel_rfl) fun K hK => ?_
  refine run_n (z := false) 2 (fun K' hK' => hK' _ _ _ ?_) (by decide)
  clear hK' K'
  refine run_call (p59 w) rfl rfl rfl rfl ?_
  refine run_n (z := false) 1 (fun K' hK' => hK' _ _ _ ?_) (by decide)
  clear hK' K'
  refine vgo_case 6 rfl (fun g0 => ?_) (fun g0 => ?_)
  · -- split 0 at 1,4 true
    refine run_end (z := false) fun K' hK' => hK' _ _ _ (hK _ _ _ ?_)
    clear hK' K' hK K
    refine vc_ret ⟨.inr rfl, ?_⟩
    exact Eq.trans (b := some (.bool _)) rfl (fin_bb (rt_hi g0))
  · -- split 0 at 1,4 false
    refine run_end (z := false) fun K' hK' => hK' _ _ _ (hK _ _ _ ?_)
    clear hK' K' hK K
    refine vc_ret ⟨.inr rfl, ?_⟩
    rw [rt_no g0]
    rfl

theorem p109 {n : Nat} (hn : n < 2 ^ 64) : Pure 109 [u64 n] (b8 n) := by
  refine pure_of Try.func109 rfl Try.ntmps109 (by kernel_rfl) rfl (by simp) (plain_b8 n) ?_
  refine vc_seq ?_
  refine vc_go (by kernel_rfl) fun K hK => hK _ _ _ ?_
  clear hK K
  refine vc_seq ?_
  refine vc_reg (by kernel_rfl) fun K hK => ?_
  refine run_n (z := false) 2 (fun K' hK' => hK' _ _ _ ?_) (by decide)
  clear hK' K'
  refine run_call (p25s hn) rfl rfl rfl rfl ?_
  refine run_set (vex_st32 rfl rfl bits0_length rfl) rfl (by decide) rfl ?_
  refine run_end (z := false) fun K' hK' => hK' _ _ _ (hK _ _ _ ?_)
  clear hK' K' hK K
  refine vc_ret ⟨.inr rfl, ?_⟩
  change vresult _ [.cell 2 32] = _
  rw [vresult_one]
  exact vres_32 (m := 0) (f := fun k => n.testBit k) rfl rfl

theorem p56 {a v b w : Nat} (ha : a < 2 ^ 128) (hv : v < 2 ^ 64) (hb : b < 2 ^ 128) (hw : w < 2 ^ 64) : Pure 56 [fr a v, fr b w] (.int .i64 (cmpW (a * w) (b * v))) := by
  have m1 : a * w < 2 ^ 256 := Nat.lt_trans (mul_lt ha hw) (by decide)
  have m2 : b * v < 2 ^ 256 := Nat.lt_trans (mul_lt hb hv) (by decide)
  refine pure_of Try.func56 rfl Try.ntmps56 (by kernel_rfl) rfl (by simp) rfl ?_
  refine vc_seq ?_
  refine vc_go (by kernel_rfl) fun K hK => hK _ _ _ ?_
  clear hK K
  refine vc_seq ?_
  refine vc_regD [(2, 4), (1, 6), (2, 6), (4, 6), (5, 6)] (by kernel_rfl) (by kernel_rfl) fun K hK => ?_
  refine runD_n (z := false) 2 (fun K' hK' => hK' _ _ _ _ ?_) (by decide)
  clear hK' K'
  refine runD_call (p25 ha) rfl rfl rfl rfl ?_
  refine runD_n (z := false) 2 (fun K' hK' => hK' _ _ _ _ ?_) (by decide)
  clear hK' K'
  refine runD_call (p31s ha hw) rfl rfl rfl rfl ?_
  refine runD_n (z := false) 1 (fun K' hK' => hK' _ _ _ _ ?_) (by decide)
  clear hK' K'
  refine runD_set (vex_st32 rfl rfl bits0_length rfl) rfl (by decide) rfl rfl ?_
  refine runD_end (z := false) fun K' hK' => hK' _ _ _ _ (hK _ _ _ ?_)
  clear hK' K' hK K
  refine vc_seq ?_
  refine vc_regD [(2, 4), (1, 6), (2, 6), (4, 6), (5, 6)] (by kernel_rfl) (by kernel_rfl) fun K hK => ?_
  refine runD_n (z := false) 2 (fun K' hK' => hK' _ _ _ _ ?_) (by decide)
  clear hK' K'
  refine runD_call (p25 hb) rfl rfl rfl rfl ?_
  refine runD_n (z := false) 2 (fun K' hK' => hK' _ _ _ _ ?_) (by decide)
  clear hK' K'
  refine runD_call (p31s hb hv) rfl rfl rfl rfl ?_
  refine runD_n (z := false) 1 (fun K' hK' => hK' _ _ _ _ ?_) (by decide)
  clear hK' K'
  refine runD_set (vex_st32 rfl rfl bits0_length rfl) rfl (by decide) rfl rfl ?_
  refine runD_end (z := false) fun K' hK' => hK' _ _ _ _ (hK _ _ _ ?_)
  clear hK' K' hK K
  refine vc_seq ?_
  refine vc_seq ?_
  refine vc_reg (by kernel_rfl) fun K hK => ?_
  refine run_rd (vex_ld32 rfl rfl) rfl ?_
  refine run_rd (vex_ld32 rfl rfl) rfl ?_
  refine run_call (p32 m1 m2) rfl rfl rfl rfl ?_
  refine run_end (z := false) fun K' hK' => hK' _ _ _ (hK _ _ _ ?_)
  clear hK' K' hK K
  refine vc_cond rfl (fun c0 => ?_) (fun c0 => ?_)
  · -- cond 0 t21 true
    refine vc_seq ?_
    refine vc_go (by kernel_rfl) fun K hK => hK _ _ _ ?_
    clear hK K
    refine vc_ret ⟨.inr rfl, ?_⟩
    rw [show cmpW (a * w) (b * v) = -1 from if_pos (of_decide_eq_true c0)]
    rfl
  · -- cond 0 t21 false
    refine vc_skip ?_
    refine vc_seq ?_
    refine vc_seq ?_
    refine vc_reg (by kernel_rfl) fun K hK => ?_
    refine run_rd (vex_ld32 rfl rfl) rfl ?_
    refine run_rd (vex_ld32 rfl rfl) rfl ?_
    refine run_call (p32 m2 m1) rfl rfl rfl rfl ?_
    refine run_end (z := false) fun K' hK' => hK' _ _ _ (hK _ _ _ ?_)
    clear hK' K' hK K
    refine vc_cond rfl (fun c1 => ?_) (fun c1 => ?_)
    · -- cond 1 t24 true
      refine vc_seq ?_
      refine vc_go (by kernel_rfl) fun K hK => hK _ _ _ ?_
      clear hK K
      refine vc_ret ⟨.inr rfl, ?_⟩
      rw [show cmpW (a * w) (b * v) = 1 from (if_neg (of_decide_eq_false c0)).trans (if_neg (fun h => by have := of_decide_eq_true c1; omega))]
      rfl
    · -- cond 1 t24 false
      refine vc_skip ?_
      refine vc_seq ?_
      refine vc_go (by kernel_rfl) fun K hK => hK _ _ _ ?_
      clear hK K
      refine vc_ret ⟨.inr rfl, ?_⟩
      rw [show cmpW (a * w) (b * v) = 0 from cmpW_eq.2 (by have := of_decide_eq_false c0; have := of_decide_eq_false c1; omega)]
      rfl

theorem p108y {v : Nat} (h : v < 2 ^ 100) : Pure 108 [b8 v] (.tuple #[wd v, .bool true]) := by
  have hbig : decide (((v / 2 ^ 64 : Nat) : Int) ≥ 68719476736) = false := by rw [decide_eq_false_iff_not]; omega
  refine pure_of Try.func108 rfl Try.ntmps108 (by kernel_rfl) (by simp [plainL, plain_b8]) (by simp) rfl ?_
  refine vc_seq ?_
  refine vc_go (by kernel_rfl) fun K hK => hK _ _ _ ?_
  clear hK K
  refine vc_seq ?_
  refine vc_reg (by kernel_rfl) fun K hK => ?_
  refine run_rd (vex_ld32 rfl rfl) rfl ?_
  refine run_call (p26w (by omega)) rfl rfl rfl rfl ?_
  refine run_end (z := false) fun K' hK' => hK' _ _ _ (hK _ _ _ ?_)
  clear hK' K' hK K
  refine vc_seq ?_
  refine vc_seq ?_
  refine vc_go (by kernel_rfl) fun K hK => hK _ _ _ ?_
  clear hK K
  refine vc_cond (t := false) (bb hbig) (fun h => by cases h) (fun _ => ?_)
  refine vc_skip ?_
  refine vc_seq ?_
  refine vc_go (by kernel_rfl) fun K hK => hK _ _ _ ?_
  clear hK K
  exact vc_ret ⟨.inr rfl, rfl⟩

theorem p108a {v : Nat} (h : ¬ v < 2 ^ 100) (h2 : v < 2 ^ 128) : Pure 108 [b8 v] (.tuple #[wd 0, .bool false]) := by
  have hbig : decide (((v / 2 ^ 64 : Nat) : Int) ≥ 68719476736) = true := by rw [decide_eq_true_eq]; omega
  refine pure_of Try.func108 rfl Try.ntmps108 (by kernel_rfl) (by simp [plainL, plain_b8]) (by simp) rfl ?_
  refine vc_seq ?_
  refine vc_go (by kernel_rfl) fun K hK => hK _ _ _ ?_
  clear hK K
  refine vc_seq ?_
  refine vc_reg (by kernel_rfl) fun K hK => ?_
  refine run_rd (vex_ld32 rfl rfl) rfl ?_
  refine run_call (p26w h2) rfl rfl rfl rfl ?_
  refine run_end (z := false) fun K' hK' => hK' _ _ _ (hK _ _ _ ?_)
  clear hK' K' hK K
  refine vc_seq ?_
  refine vc_seq ?_
  refine vc_go (by kernel_rfl) fun K hK => hK _ _ _ ?_
  clear hK K
  refine vc_cond (t := true) (bb hbig) (fun _ => ?_) (fun h => by cases h)
  refine vc_seq ?_
  refine vc_go (by kernel_rfl) fun K hK => hK _ _ _ ?_
  clear hK K
  exact vc_ret ⟨.inr rfl, rfl⟩

theorem p108b {v : Nat} (h : v < 2 ^ 256) (h2 : ¬ v < 2 ^ 128) : Pure 108 [b8 v] (.tuple #[wd 0, .bool false]) := by
  have h26 := p26 h
  rw [decide_eq_false h2] at h26
  refine pure_of Try.func108 rfl Try.ntmps108 (by kernel_rfl) (by simp [plainL, plain_b8]) (by simp) rfl ?_
  refine vc_seq ?_
  refine vc_go (by kernel_rfl) fun K hK => hK _ _ _ ?_
  clear hK K
  refine vc_seq ?_
  refine vc_reg (by kernel_rfl) fun K hK => ?_
  refine run_rd (vex_ld32 rfl rfl) rfl ?_
  refine run_call (h26) rfl rfl rfl rfl ?_
  refine run_end (z := false) fun K' hK' => hK' _ _ _ (hK _ _ _ ?_)
  clear hK' K' hK K
  refine vc_seq ?_
  refine vc_seq ?_
  refine vc_go (by kernel_rfl) fun K hK => hK _ _ _ ?_
  clear hK K
  refine vc_cond (t := true) rfl (fun _ => ?_) (fun h => by cases h)
  refine vc_seq ?_
  refine vc_go (by kernel_rfl) fun K hK => hK _ _ _ ?_
  clear hK K
  exact vc_ret ⟨.inr rfl, rfl⟩

theorem p108n {v : Nat} (hv : v < 2 ^ 256) (h : ¬ v < 2 ^ 100) : Pure 108 [b8 v] (.tuple #[wd 0, .bool false]) := by
  by_cases h2 : v < 2 ^ 128
  · exact p108a h h2
  · exact p108b hv h2


theorem p64y {n w k : Nat} (hn : n < 2 ^ 128) (hk : k < 2 ^ 64) (h : n + k < 2 ^ 100) : Pure 64 [fr n w, u64 k] (.tuple #[wd (n + k), .bool true]) := by
  refine pure_of Try.func64 rfl Try.ntmps64 (by kernel_rfl) rfl (by simp) rfl ?_
  refine vc_seq ?_
  refine vc_go (by kernel_rfl) fun K hK => hK _ _ _ ?_
  clear hK K
  refine vc_seq ?_
  refine vc_reg (by kernel_rfl) fun K hK => ?_
  refine run_n (z := false) 2 (fun K' hK' => hK' _ _ _ ?_) (by decide)
  clear hK' K'
  refine run_call (p25 hn) rfl rfl rfl rfl ?_
  refine run_n (z := false) 1 (fun K' hK' => hK' _ _ _ ?_) (by decide)
  clear hK' K'
  refine run_call (p109 hk) rfl rfl rfl rfl ?_
  refine run_call (p35s (x := n) (y := k) (by omega)) rfl rfl rfl rfl ?_
  refine run_call (p108y h) rfl rfl rfl rfl ?_
  refine run_end (z := false) fun K' hK' => hK' _ _ _ (hK _ _ _ ?_)
  clear hK' K' hK K
  exact vc_ret ⟨.inr rfl, rfl⟩

theorem p64n {n w k : Nat} (hn : n < 2 ^ 128) (hk : k < 2 ^ 64) (h : ¬ n + k < 2 ^ 100) : Pure 64 [fr n w, u64 k] (.tuple #[wd 0, .bool false]) := by
  refine pure_of Try.func64 rfl Try.ntmps64 (by kernel_rfl) rfl (by simp) rfl ?_
  refine vc_seq ?_
  refine vc_go (by kernel_rfl) fun K hK => hK _ _ _ ?_
  clear hK K
  refine vc_seq ?_
  refine vc_reg (by kernel_rfl) fun K hK => ?_
  refine run_n (z := false) 2 (fun K' hK' => hK' _ _ _ ?_) (by decide)
  clear hK' K'
  refine run_call (p25 hn) rfl rfl rfl rfl ?_
  refine run_n (z := false) 1 (fun K' hK' => hK' _ _ _ ?_) (by decide)
  clear hK' K'
  refine run_call (p109 hk) rfl rfl rfl rfl ?_
  refine run_call (p35s (x := n) (y := k) (by omega)) rfl rfl rfl rfl ?_
  refine run_call (p108n (by omega) h) rfl rfl rfl rfl ?_
  refine run_end (z := false) fun K' hK' => hK' _ _ _ (hK _ _ _ ?_)
  clear hK' K' hK K
  exact vc_ret ⟨.inr rfl, rfl⟩

theorem p65a {x y : Nat} (hx : x < 2 ^ 128) (hy : y < 2 ^ 256) (h : x < y) : Pure 65 [b8 x, b8 y] (wd (x - y)) := by
  have hd : decide (x < y) = true := decide_eq_true h
  have e0 : x - y = 0 := by omega
  rw [e0]
  refine pure_of Try.func65 rfl Try.ntmps65 (by kernel_rfl) (by simp [plainL, plain_b8]) (by simp) rfl ?_
  refine vc_seq ?_
  refine vc_go (by kernel_rfl) fun K hK => hK _ _ _ ?_
  clear hK K
  refine vc_seq ?_
  refine vc_seq ?_
  refine vc_reg (by kernel_rfl) fun K hK => ?_
  refine run_rd (vex_ld32 rfl rfl) rfl ?_
  refine run_rd (vex_ld32 rfl rfl) rfl ?_
  refine run_call (p32 (x := x) (y := y) (by omega) hy) rfl rfl rfl rfl ?_
  refine run_end (z := false) fun K' hK' => hK' _ _ _ (hK _ _ _ ?_)
  clear hK' K' hK K
  refine vc_cond (t := true) (bb hd) (fun _ => ?_) (fun h => by cases h)
  refine vc_seq ?_
  refine vc_go (by kernel_rfl) fun K hK => hK _ _ _ ?_
  clear hK K
  exact vc_ret ⟨.inr rfl, rfl⟩

theorem p65b {x y : Nat} (hx : x < 2 ^ 128) (hy : y < 2 ^ 256) (h : ¬ x < y) : Pure 65 [b8 x, b8 y] (wd (x - y)) := by
  have hd : decide (x < y) = false := decide_eq_false h
  refine pure_of Try.func65 rfl Try.ntmps65 (by kernel_rfl) (by simp [plainL, plain_b8]) (by simp) rfl ?_
  refine vc_seq ?_
  refine vc_go (by kernel_rfl) fun K hK => hK _ _ _ ?_
  clear hK K
  refine vc_seq ?_
  refine vc_seq ?_
  refine vc_reg (by kernel_rfl) fun K hK => ?_
  refine run_rd (vex_ld32 rfl rfl) rfl ?_
  refine run_rd (vex_ld32 rfl rfl) rfl ?_
  refine run_call (p32 (x := x) (y := y) (by omega) hy) rfl rfl rfl rfl ?_
  refine run_end (z := false) fun K' hK' => hK' _ _ _ (hK _ _ _ ?_)
  clear hK' K' hK K
  refine vc_cond (t := false) (bb hd) (fun h => by cases h) (fun _ => ?_)
  refine vc_skip ?_
  refine vc_seq ?_
  refine vc_reg (by kernel_rfl) fun K hK => ?_
  refine run_rd (vex_ld32 rfl rfl) rfl ?_
  refine run_rd (vex_ld32 rfl rfl) rfl ?_
  refine run_call (p37 (x := x) (y := y) (by omega)) rfl rfl rfl rfl ?_
  refine run_call (p26w (v := x - y) (by omega)) rfl rfl rfl rfl ?_
  refine run_end (z := false) fun K' hK' => hK' _ _ _ (hK _ _ _ ?_)
  clear hK' K' hK K
  refine vc_seq ?_
  refine vc_go (by kernel_rfl) fun K hK => hK _ _ _ ?_
  clear hK K
  exact vc_ret ⟨.inr rfl, rfl⟩

theorem p65 {x y : Nat} (hx : x < 2 ^ 128) (hy : y < 2 ^ 256) : Pure 65 [b8 x, b8 y] (wd (x - y)) := by
  by_cases h : x < y
  · exact p65a hx hy h
  · exact p65b hx hy h


theorem p66ya {n v w : Nat} (hn : n < 2 ^ 128) (hv0 : 0 < v) (hv : v < 2 ^ 64) (hw : w < 2 ^ 64) (h : sc n w v true < 2 ^ 100) (h0 : n * w % v = 0) : Pure 66 [fr n v, u64 w] (.tuple #[wd (sc n w v true), .bool true]) := by
  have hnw : n * w < 2 ^ 192 := Nat.lt_of_lt_of_le (mul_lt hn hw) (by decide)
  have hq : n * w / v ≤ n * w := Nat.div_le_self _ _
  have hrv : n * w % v < v := Nat.mod_lt _ hv0
  have hz : (!decide (n * w % v = 0)) = false := by rw [decide_eq_true h0]; rfl
  have es : sc n w v true = n * w / v := by rw [sc, if_neg (fun h => by omega), Nat.add_zero]
  rw [es] at h
  rw [es]
  refine pure_of Try.func66 rfl Try.ntmps66 (by kernel_rfl) rfl (by simp) rfl ?_
  refine vc_seq ?_
  refine vc_go (by kernel_rfl) fun K hK => hK _ _ _ ?_
  clear hK K
  refine vc_seq ?_
  refine vc_regD [(2, 6), (4, 6), (1, 12), (2, 12), (4, 12), (6, 12), (7, 12), (8, 12), (1, 13), (2, 13), (4, 13), (6, 13), (7, 13), (8, 13), (12, 13)] (by kernel_rfl) (by kernel_rfl) fun K hK => ?_
  refine runD_n (z := false) 2 (fun K' hK' => hK' _ _ _ _ ?_) (by decide)
  clear hK' K'
  refine runD_call (p25 hn) rfl rfl rfl rfl ?_
  refine runD_n (z := false) 1 (fun K' hK' => hK' _ _ _ _ ?_) (by decide)
  clear hK' K'
  refine runD_call (p31s hn hw) rfl rfl rfl rfl ?_
  refine runD_n (z := false) 2 (fun K' hK' => hK' _ _ _ _ ?_) (by decide)
  clear hK' K'
  refine runD_call (p109 hv) rfl rfl rfl rfl ?_
  refine runD_call (p24 (Nat.lt_trans hnw (by decide)) hv0 (Nat.lt_trans hv (by decide))) rfl rfl rfl rfl ?_
  refine runD_n (z := false) 5 (fun K' hK' => hK' _ _ _ _ ?_) (by decide)
  clear hK' K'
  refine runD_set (vex_st32 rfl rfl bits0_length rfl) rfl (by decide) rfl rfl ?_
  refine runD_set (vex_st32 rfl rfl bits0_length rfl) rfl (by decide) rfl rfl ?_
  refine runD_end (z := false) fun K' hK' => hK' _ _ _ _ (hK _ _ _ ?_)
  clear hK' K' hK K
  refine vc_seq ?_
  refine vc_seq ?_
  refine vc_reg (by kernel_rfl) fun K hK => ?_
  refine run_rd (vex_ld32 rfl rfl) rfl ?_
  refine run_n (z := false) 1 (fun K' hK' => hK' _ _ _ ?_) (by decide)
  clear hK' K'
  refine run_op (vex_ne32 (f := fun k => (n * w % v).testBit k) (g := fun _ => false) (b := decide (n * w % v = 0)) rfl agg0 (bits_zero (by omega))) rfl ?_
  refine run_end (z := false) fun K' hK' => hK' _ _ _ (hK _ _ _ ?_)
  clear hK' K' hK K
  refine vc_cond (t := false) (bb hz) (fun h => by cases h) (fun _ => ?_)
  refine vc_skip ?_
  refine vc_seq ?_
  refine vc_reg (by kernel_rfl) fun K hK => ?_
  refine run_rd (vex_ld32 rfl rfl) rfl ?_
  refine run_call (p108y h) rfl rfl rfl rfl ?_
  refine run_end (z := false) fun K' hK' => hK' _ _ _ (hK _ _ _ ?_)
  clear hK' K' hK K
  exact vc_ret ⟨.inr rfl, rfl⟩

theorem p66yb {n v w : Nat} (hn : n < 2 ^ 128) (hv0 : 0 < v) (hv : v < 2 ^ 64) (hw : w < 2 ^ 64) (h : sc n w v true < 2 ^ 100) (h0 : ¬ n * w % v = 0) : Pure 66 [fr n v, u64 w] (.tuple #[wd (sc n w v true), .bool true]) := by
  have hnw : n * w < 2 ^ 192 := Nat.lt_of_lt_of_le (mul_lt hn hw) (by decide)
  have hq : n * w / v ≤ n * w := Nat.div_le_self _ _
  have hrv : n * w % v < v := Nat.mod_lt _ hv0
  have hz : (!decide (n * w % v = 0)) = true := by rw [decide_eq_false h0]; rfl
  have es : sc n w v true = n * w / v + 1 := by rw [sc, if_pos ⟨rfl, by omega⟩]
  rw [es] at h
  rw [es]
  refine pure_of Try.func66 rfl Try.ntmps66 (by kernel_rfl) rfl (by simp) rfl ?_
  refine vc_seq ?_
  refine vc_go (by kernel_rfl) fun K hK => hK _ _ _ ?_
  clear hK K
  refine vc_seq ?_
  refine vc_regD [(2, 6), (4, 6), (1, 12), (2, 12), (4, 12), (6, 12), (7, 12), (8, 12), (1, 13), (2, 13), (4, 13), (6, 13), (7, 13), (8, 13), (12, 13)] (by kernel_rfl) (by kernel_rfl) fun K hK => ?_
  refine runD_n (z := false) 2 (fun K' hK' => hK' _ _ _ _ ?_) (by decide)
  clear hK' K'
  refine runD_call (p25 hn) rfl rfl rfl rfl ?_
  refine runD_n (z := false) 1 (fun K' hK' => hK' _ _ _ _ ?_) (by decide)
  clear hK' K'
  refine runD_call (p31s hn hw) rfl rfl rfl rfl ?_
  refine runD_n (z := false) 2 (fun K' hK' => hK' _ _ _ _ ?_) (by decide)
  clear hK' K'
  refine runD_call (p109 hv) rfl rfl rfl rfl ?_
  refine runD_call (p24 (Nat.lt_trans hnw (by decide)) hv0 (Nat.lt_trans hv (by decide))) rfl rfl rfl rfl ?_
  refine runD_n (z := false) 5 (fun K' hK' => hK' _ _ _ _ ?_) (by decide)
  clear hK' K'
  refine runD_set (vex_st32 rfl rfl bits0_length rfl) rfl (by decide) rfl rfl ?_
  refine runD_set (vex_st32 rfl rfl bits0_length rfl) rfl (by decide) rfl rfl ?_
  refine runD_end (z := false) fun K' hK' => hK' _ _ _ _ (hK _ _ _ ?_)
  clear hK' K' hK K
  refine vc_seq ?_
  refine vc_seq ?_
  refine vc_reg (by kernel_rfl) fun K hK => ?_
  refine run_rd (vex_ld32 rfl rfl) rfl ?_
  refine run_n (z := false) 1 (fun K' hK' => hK' _ _ _ ?_) (by decide)
  clear hK' K'
  refine run_op (vex_ne32 (f := fun k => (n * w % v).testBit k) (g := fun _ => false) (b := decide (n * w % v = 0)) rfl agg0 (bits_zero (by omega))) rfl ?_
  refine run_end (z := false) fun K' hK' => hK' _ _ _ (hK _ _ _ ?_)
  clear hK' K' hK K
  refine vc_cond (t := true) (bb hz) (fun _ => ?_) (fun h => by cases h)
  refine vc_regD [(0, 1)] (by kernel_rfl) (by kernel_rfl) fun K hK => ?_
  refine runD_rd (vex_ld32 rfl rfl) rfl rfl ?_
  refine runD_call (p109 (n := 1) (by decide)) rfl rfl rfl rfl ?_
  refine runD_call (p35s (x := n * w / v) (y := 1) (by omega)) rfl rfl rfl rfl ?_
  refine runD_set (vex_st32 rfl rfl (bl_length _) rfl) rfl (by decide) rfl rfl ?_
  refine runD_end (z := false) fun K' hK' => hK' _ _ _ _ (hK _ _ _ ?_)
  clear hK' K' hK K
  refine vc_seq ?_
  refine vc_reg (by kernel_rfl) fun K hK => ?_
  refine run_rd (vex_ld32 rfl rfl) rfl ?_
  refine run_call (p108y h) rfl rfl rfl rfl ?_
  refine run_end (z := false) fun K' hK' => hK' _ _ _ (hK _ _ _ ?_)
  clear hK' K' hK K
  exact vc_ret ⟨.inr rfl, rfl⟩

theorem p66na {n v w : Nat} (hn : n < 2 ^ 128) (hv0 : 0 < v) (hv : v < 2 ^ 64) (hw : w < 2 ^ 64) (h : ¬ sc n w v true < 2 ^ 100) (h0 : n * w % v = 0) : Pure 66 [fr n v, u64 w] (.tuple #[wd 0, .bool false]) := by
  have hnw : n * w < 2 ^ 192 := Nat.lt_of_lt_of_le (mul_lt hn hw) (by decide)
  have hq : n * w / v ≤ n * w := Nat.div_le_self _ _
  have hrv : n * w % v < v := Nat.mod_lt _ hv0
  have hz : (!decide (n * w % v = 0)) = false := by rw [decide_eq_true h0]; rfl
  have es : sc n w v true = n * w / v := by rw [sc, if_neg (fun h => by omega), Nat.add_zero]
  rw [es] at h
  refine pure_of Try.func66 rfl Try.ntmps66 (by kernel_rfl) rfl (by simp) rfl ?_
  refine vc_seq ?_
  refine vc_go (by kernel_rfl) fun K hK => hK _ _ _ ?_
  clear hK K
  refine vc_seq ?_
  refine vc_regD [(2, 6), (4, 6), (1, 12), (2, 12), (4, 12), (6, 12), (7, 12), (8, 12), (1, 13), (2, 13), (4, 13), (6, 13), (7, 13), (8, 13), (12, 13)] (by kernel_rfl) (by kernel_rfl) fun K hK => ?_
  refine runD_n (z := false) 2 (fun K' hK' => hK' _ _ _ _ ?_) (by decide)
  clear hK' K'
  refine runD_call (p25 hn) rfl rfl rfl rfl ?_
  refine runD_n (z := false) 1 (fun K' hK' => hK' _ _ _ _ ?_) (by decide)
  clear hK' K'
  refine runD_call (p31s hn hw) rfl rfl rfl rfl ?_
  refine runD_n (z := false) 2 (fun K' hK' => hK' _ _ _ _ ?_) (by decide)
  clear hK' K'
  refine runD_call (p109 hv) rfl rfl rfl rfl ?_
  refine runD_call (p24 (Nat.lt_trans hnw (by decide)) hv0 (Nat.lt_trans hv (by decide))) rfl rfl rfl rfl ?_
  refine runD_n (z := false) 5 (fun K' hK' => hK' _ _ _ _ ?_) (by decide)
  clear hK' K'
  refine runD_set (vex_st32 rfl rfl bits0_length rfl) rfl (by decide) rfl rfl ?_
  refine runD_set (vex_st32 rfl rfl bits0_length rfl) rfl (by decide) rfl rfl ?_
  refine runD_end (z := false) fun K' hK' => hK' _ _ _ _ (hK _ _ _ ?_)
  clear hK' K' hK K
  refine vc_seq ?_
  refine vc_seq ?_
  refine vc_reg (by kernel_rfl) fun K hK => ?_
  refine run_rd (vex_ld32 rfl rfl) rfl ?_
  refine run_n (z := false) 1 (fun K' hK' => hK' _ _ _ ?_) (by decide)
  clear hK' K'
  refine run_op (vex_ne32 (f := fun k => (n * w % v).testBit k) (g := fun _ => false) (b := decide (n * w % v = 0)) rfl agg0 (bits_zero (by omega))) rfl ?_
  refine run_end (z := false) fun K' hK' => hK' _ _ _ (hK _ _ _ ?_)
  clear hK' K' hK K
  refine vc_cond (t := false) (bb hz) (fun h => by cases h) (fun _ => ?_)
  refine vc_skip ?_
  refine vc_seq ?_
  refine vc_reg (by kernel_rfl) fun K hK => ?_
  refine run_rd (vex_ld32 rfl rfl) rfl ?_
  refine run_call (p108n (by omega) h) rfl rfl rfl rfl ?_
  refine run_end (z := false) fun K' hK' => hK' _ _ _ (hK _ _ _ ?_)
  clear hK' K' hK K
  exact vc_ret ⟨.inr rfl, rfl⟩

theorem p66nb {n v w : Nat} (hn : n < 2 ^ 128) (hv0 : 0 < v) (hv : v < 2 ^ 64) (hw : w < 2 ^ 64) (h : ¬ sc n w v true < 2 ^ 100) (h0 : ¬ n * w % v = 0) : Pure 66 [fr n v, u64 w] (.tuple #[wd 0, .bool false]) := by
  have hnw : n * w < 2 ^ 192 := Nat.lt_of_lt_of_le (mul_lt hn hw) (by decide)
  have hq : n * w / v ≤ n * w := Nat.div_le_self _ _
  have hrv : n * w % v < v := Nat.mod_lt _ hv0
  have hz : (!decide (n * w % v = 0)) = true := by rw [decide_eq_false h0]; rfl
  have es : sc n w v true = n * w / v + 1 := by rw [sc, if_pos ⟨rfl, by omega⟩]
  rw [es] at h
  refine pure_of Try.func66 rfl Try.ntmps66 (by kernel_rfl) rfl (by simp) rfl ?_
  refine vc_seq ?_
  refine vc_go (by kernel_rfl) fun K hK => hK _ _ _ ?_
  clear hK K
  refine vc_seq ?_
  refine vc_regD [(2, 6), (4, 6), (1, 12), (2, 12), (4, 12), (6, 12), (7, 12), (8, 12), (1, 13), (2, 13), (4, 13), (6, 13), (7, 13), (8, 13), (12, 13)] (by kernel_rfl) (by kernel_rfl) fun K hK => ?_
  refine runD_n (z := false) 2 (fun K' hK' => hK' _ _ _ _ ?_) (by decide)
  clear hK' K'
  refine runD_call (p25 hn) rfl rfl rfl rfl ?_
  refine runD_n (z := false) 1 (fun K' hK' => hK' _ _ _ _ ?_) (by decide)
  clear hK' K'
  refine runD_call (p31s hn hw) rfl rfl rfl rfl ?_
  refine runD_n (z := false) 2 (fun K' hK' => hK' _ _ _ _ ?_) (by decide)
  clear hK' K'
  refine runD_call (p109 hv) rfl rfl rfl rfl ?_
  refine runD_call (p24 (Nat.lt_trans hnw (by decide)) hv0 (Nat.lt_trans hv (by decide))) rfl rfl rfl rfl ?_
  refine runD_n (z := false) 5 (fun K' hK' => hK' _ _ _ _ ?_) (by decide)
  clear hK' K'
  refine runD_set (vex_st32 rfl rfl bits0_length rfl) rfl (by decide) rfl rfl ?_
  refine runD_set (vex_st32 rfl rfl bits0_length rfl) rfl (by decide) rfl rfl ?_
  refine runD_end (z := false) fun K' hK' => hK' _ _ _ _ (hK _ _ _ ?_)
  clear hK' K' hK K
  refine vc_seq ?_
  refine vc_seq ?_
  refine vc_reg (by kernel_rfl) fun K hK => ?_
  refine run_rd (vex_ld32 rfl rfl) rfl ?_
  refine run_n (z := false) 1 (fun K' hK' => hK' _ _ _ ?_) (by decide)
  clear hK' K'
  refine run_op (vex_ne32 (f := fun k => (n * w % v).testBit k) (g := fun _ => false) (b := decide (n * w % v = 0)) rfl agg0 (bits_zero (by omega))) rfl ?_
  refine run_end (z := false) fun K' hK' => hK' _ _ _ (hK _ _ _ ?_)
  clear hK' K' hK K
  refine vc_cond (t := true) (bb hz) (fun _ => ?_) (fun h => by cases h)
  refine vc_regD [(0, 1)] (by kernel_rfl) (by kernel_rfl) fun K hK => ?_
  refine runD_rd (vex_ld32 rfl rfl) rfl rfl ?_
  refine runD_call (p109 (n := 1) (by decide)) rfl rfl rfl rfl ?_
  refine runD_call (p35s (x := n * w / v) (y := 1) (by omega)) rfl rfl rfl rfl ?_
  refine runD_set (vex_st32 rfl rfl (bl_length _) rfl) rfl (by decide) rfl rfl ?_
  refine runD_end (z := false) fun K' hK' => hK' _ _ _ _ (hK _ _ _ ?_)
  clear hK' K' hK K
  refine vc_seq ?_
  refine vc_reg (by kernel_rfl) fun K hK => ?_
  refine run_rd (vex_ld32 rfl rfl) rfl ?_
  refine run_call (p108n (by omega) h) rfl rfl rfl rfl ?_
  refine run_end (z := false) fun K' hK' => hK' _ _ _ (hK _ _ _ ?_)
  clear hK' K' hK K
  exact vc_ret ⟨.inr rfl, rfl⟩

theorem p66y {n v w : Nat} (hn : n < 2 ^ 128) (hv0 : 0 < v) (hv : v < 2 ^ 64) (hw : w < 2 ^ 64) (h : sc n w v true < 2 ^ 100) : Pure 66 [fr n v, u64 w] (.tuple #[wd (sc n w v true), .bool true]) := by
  by_cases h0 : n * w % v = 0
  · exact p66ya hn hv0 hv hw h h0
  · exact p66yb hn hv0 hv hw h h0


theorem p66n {n v w : Nat} (hn : n < 2 ^ 128) (hv0 : 0 < v) (hv : v < 2 ^ 64) (hw : w < 2 ^ 64) (h : ¬ sc n w v true < 2 ^ 100) : Pure 66 [fr n v, u64 w] (.tuple #[wd 0, .bool false]) := by
  by_cases h0 : n * w % v = 0
  · exact p66na hn hv0 hv hw h h0
  · exact p66nb hn hv0 hv hw h h0

end Go.Proofs.Ytdfkcijholopoaa.Vm
namespace Go.Proofs.Ytdfkcijholopoaa.Vm
open Go Go.RowKit
set_option maxRecDepth 10000
set_option linter.unusedSimpArgs false
set_option linter.unusedVariables false

def frp (x : Nat × Nat) : List Value := frc x.1 x.2
theorem frp_len (a : Nat × Nat) : (frp a).length = 3 := rfl
theorem frp_plain (a : Nat × Nat) : plainL (frp a) = true := rfl
theorem frp_one (a : Nat × Nat) : (frp a).all (·.oneCell') = true := rfl
theorem frs_plain (l : List (Nat × Nat)) : plainL (rws frp l) = true := rws_plain frp_plain l
def rta (l : List (Nat × Nat)) : Bool := l.all fun x => rt x.1 x.2
theorem rta_no {l : List (Nat × Nat)} {i : Nat} {a : Nat × Nat} (h : l[i]? = some a) (hr : rt a.1 a.2 = false) : rta l = false := by
  unfold rta
  rw [List.all_eq_false]
  exact ⟨a, List.mem_of_getElem? h, by simp [hr]⟩
theorem rta_step {l : List (Nat × Nat)} {i : Nat} {a : Nat × Nat} (h : l[i]? = some a) (hr : rt a.1 a.2 = true) (ht : rta (l.take i) = true) : rta (l.take (i + 1)) = true := by
  unfold rta at *
  rw [List.take_add_one, h]
  simp [hr, ht]
theorem rta_mem {l : List (Nat × Nat)} (h : rta l = true) {i : Nat} {a : Nat × Nat} (ha : l[i]? = some a) : rt a.1 a.2 = true := List.all_eq_true.1 h a (List.mem_of_getElem? ha)
theorem len_le {α : Type} {l : List α} {i : Nat} (h : decide ((i : Int) < (l.length : Int)) = true) : i < l.length := by rw [decide_eq_true_eq] at h; omega
theorem len_ge {α : Type} {l : List α} {i : Nat} (h : decide ((i : Int) < (l.length : Int)) = false) : l.length ≤ i := by rw [decide_eq_false_iff_not] at h; omega

theorem rt_good {n w : Nat} (hw : (!wt w) = false) (hb : decide (((n / 2 ^ 64 : Nat) : Int) ≥ 68719476736) = false) : rt n w = true := by
  have := wt_w (by simpa using hw)
  rw [decide_eq_false_iff_not] at hb
  rw [rt, decide_eq_true_eq]; omega

theorem p90 (l : List (Nat × Nat)) (c : Nat) (hl : l.length < 2 ^ 60) : RO 90 [.slice (some ⟨0, 0, none⟩) l.length c] [(0, rws frp l)] (.bool (rta l)) := by
  refine ro_of _ 1 Try.func90 rfl Try.ntmps90 (by kernel_rfl) (by simp) rfl rfl (by simp) (by simp [frs_plain]) ?_
  refine vc_seq ?_
  refine vc_go (by kernel_rfl) fun K hK => hK _ _ _ ?_
  clear hK K
  refine vc_seq ?_
  refine vc_seq ?_
  refine vc_go (by kernel_rfl) fun K hK => hK _ _ _ ?_
  clear hK K
  refine vc_block ?_
  refine vc_loopF (fun n s => ∃ i : Nat, n = l.length - i ∧ i ≤ l.length ∧ rta (l.take i) = true ∧ s = can [(0, .slice (some ⟨0, 0, none⟩) l.length c), (2, .bool false), (5, .slice (some ⟨0, 0, none⟩) l.length c), (6, .int .i64 (l.length : Int)), (7, .int .i64 ((i : Nat) : Int))] [(0, .cells (rws frp l) 0 false)] 1) l.length ?_ ?_
  · exact ⟨_, fg_focus [(0, .slice (some ⟨0, 0, none⟩) l.length c), (2, .bool false), (5, .slice (some ⟨0, 0, none⟩) l.length c), (6, .int .i64 (l.length : Int)), (7, .int .i64 ((0 : Nat) : Int))] [(0, .cells (rws frp l) 0 false)] 1 (by decide) ⟨rfl, rfl, rfl, rfl, rfl, trivial⟩ ⟨sb rfl, trivial⟩ rfl (bdH_one (by decide) (frs_plain l)), 0, rfl, Nat.zero_le _, rfl, rfl⟩
  · rintro n s ⟨i, hn, hi, hall, rfl⟩
    refine vc_seq ?_
    refine vc_go (by kernel_rfl) fun K hK => hK _ _ _ ?_
    clear hK K
    refine vc_seq ?_
    refine vc_cond rfl (fun c0 => ?_) (fun c0 => ?_)
    · -- cond 0 t8 true
      refine vc_skip ?_
      refine vc_seq ?_
      refine vc_block ?_
      refine vc_seq ?_
      have hlt := len_le c0
      obtain ⟨a, ha⟩ : ∃ a, l[i]? = some a := ⟨l[i], List.getElem?_eq_getElem hlt⟩
      refine vc_reg (by kernel_rfl) fun K hK => ?_
      refine run_op (vex_ixs (j := i) rfl rfl rfl hlt rfl rfl) rfl ?_
      refine run_rd (vex_ldr frp_len (j := 0) (i := i) (d := frp a) rfl (Nat.zero_add _) rfl (rws_win frp l) rfl ha (by decide) rfl) rfl ?_
      refine run_end (z := false) fun K' hK' => hK' _ _ _ (hK _ _ _ ?_)
      clear hK' K' hK K
      refine vc_seq ?_
      refine vc_reg (by kernel_rfl) fun K hK => ?_
      refine run_n (z := false) 2 (fun K' hK' => hK' _ _ _ ?_) (by decide)
      clear hK' K'
      refine run_call (p106 a.2) rfl rfl rfl rfl ?_
      refine run_n (z := false) 2 (fun K' hK' => hK' _ _ _ ?_) (by decide)
      clear hK' K'
      refine vgo_case 15 rfl (fun g0 => ?_) (fun g0 => ?_)
      · -- split 0 at 4,5 true
        refine run_end (z := false) fun K' hK' => hK' _ _ _ (hK _ _ _ ?_)
        clear hK' K' hK K
        refine vc_cond (t := true) rfl (fun _ => ?_) (fun h => by cases h)
        refine vc_seq ?_
        refine vc_go (by kernel_rfl) fun K hK => hK _ _ _ ?_
        clear hK K
        refine vc_ret ⟨.inr rfl, ?_⟩
        exact fin_bb (rta_no ha (rt_bad g0)).symm
      · -- split 0 at 4,5 false
        refine run_end (z := false) fun K' hK' => hK' _ _ _ (hK _ _ _ ?_)
        clear hK' K' hK K
        refine vc_cond rfl (fun hb => ?_) (fun hb => ?_)
        · -- cond 2 t20 true
          refine vc_seq ?_
          refine vc_go (by kernel_rfl) fun K hK => hK _ _ _ ?_
          clear hK K
          refine vc_ret ⟨.inr rfl, ?_⟩
          exact fin_bb (rta_no ha (rt_big hb)).symm
        · -- cond 2 t20 false
          refine vc_skip ?_
          refine vc_go (by kernel_rfl) fun K hK => hK _ _ _ ?_
          clear hK K
          exact ⟨_, fg_focus [(0, .slice (some ⟨0, 0, none⟩) l.length c), (2, .bool false), (5, .slice (some ⟨0, 0, none⟩) l.length c), (6, .int .i64 (l.length : Int)), (7, .int .i64 ((i + 1 : Nat) : Int))] [(0, .cells (rws frp l) 0 false)] 1 (by decide) ⟨rfl, rfl, rfl, rfl, ii (wrapI (by omega) (by omega)), trivial⟩ ⟨sb rfl, trivial⟩ rfl (bdH_one (by decide) (frs_plain l)), l.length - (i + 1), by omega, i + 1, rfl, hlt, rta_step ha (rt_good g0 hb) hall, rfl⟩
    · -- cond 0 t8 false
      refine vc_exit ?_
      refine vc_seq ?_
      refine vc_go (by kernel_rfl) fun K hK => hK _ _ _ ?_
      clear hK K
      refine vc_ret ⟨.inr rfl, ?_⟩
      have hge := len_ge c0
      rw [List.take_of_length_le hge] at hall
      exact fin_bb hall.symm
theorem p104 {a v b w : Nat} (hra : rt a v = true) (hrb : rt b w = true) : Pure 104 [fr a v, fr b w] (.bool (decide (cmpW (a * w) (b * v) > 0))) := by
  refine pure_of Try.func104 rfl Try.ntmps104 (by kernel_rfl) rfl (by simp) rfl ?_
  refine vc_seq ?_
  refine vc_go (by kernel_rfl) fun K hK => hK _ _ _ ?_
  clear hK K
  refine vc_seq ?_
  refine vc_reg (by kernel_rfl) fun K hK => ?_
  refine run_n (z := false) 2 (fun K' hK' => hK' _ _ _ ?_) (by decide)
  clear hK' K'
  refine run_call (p42y hra hrb) rfl rfl rfl rfl ?_
  refine run_end (z := false) fun K' hK' => hK' _ _ _ (hK _ _ _ ?_)
  clear hK' K' hK K
  exact vc_ret ⟨.inr rfl, rfl⟩
theorem p105 {a v b w : Nat} (hra : rt a v = true) (hrb : rt b w = true) : Pure 105 [fr a v, fr b w] (.bool (decide (cmpW (a * w) (b * v) < 0))) := by
  refine pure_of Try.func105 rfl Try.ntmps105 (by kernel_rfl) rfl (by simp) rfl ?_
  refine vc_seq ?_
  refine vc_go (by kernel_rfl) fun K hK => hK _ _ _ ?_
  clear hK K
  refine vc_seq ?_
  refine vc_reg (by kernel_rfl) fun K hK => ?_
  refine run_n (z := false) 2 (fun K' hK' => hK' _ _ _ ?_) (by decide)
  clear hK' K'
  refine run_call (p42y hra hrb) rfl rfl rfl rfl ?_
  refine run_end (z := false) fun K' hK' => hK' _ _ _ (hK _ _ _ ?_)
  clear hK' K' hK K
  exact vc_ret ⟨.inr rfl, rfl⟩
theorem p125 (a v : Nat) : Pure 125 [fr a v] (fr a v) := by
  refine pure_of Try.func125 rfl Try.ntmps125 (by kernel_rfl) rfl (by simp) rfl ?_
  refine vc_seq ?_
  refine vc_go (by kernel_rfl) fun K hK => hK _ _ _ ?_
  clear hK K
  refine vc_seq ?_
  refine vc_go (by kernel_rfl) fun K hK => hK _ _ _ ?_
  clear hK K
  exact vc_ret ⟨.inr rfl, rfl⟩
end Go.Proofs.Ytdfkcijholopoaa.Vm
namespace Go.Proofs.Ytdfkcijholopoaa.Vm
open Go Go.RowKit
set_option maxRecDepth 10000
set_option linter.unusedSimpArgs false
set_option linter.unusedVariables false

/-- A runner: its number, how many its domain has, its time n over w. -/
structure Rn where
  id : Int
  each : Int
  n : Nat
  w : Nat
  deriving DecidableEq
instance : Inhabited Rn := ⟨⟨0, 0, 0, 0⟩⟩
def rc (r : Rn) : List Value := [.int .i64 r.id, .int .i64 r.each, .int .u64 ((r.n / 2 ^ 64 : Nat) : Int), .int .u64 ((r.n % 2 ^ 64 : Nat) : Int), .int .u64 (r.w : Int)]
def rv (r : Rn) : Value := .agg #[.int .i64 r.id, .int .i64 r.each, .int .u64 ((r.n / 2 ^ 64 : Nat) : Int), .int .u64 ((r.n % 2 ^ 64 : Nat) : Int), .int .u64 (r.w : Int)]
theorem rc_len (a : Rn) : (rc a).length = 5 := rfl
theorem rc_plain (a : Rn) : plainL (rc a) = true := rfl
theorem rc_one (a : Rn) : (rc a).all (·.oneCell') = true := rfl
theorem rcs_plain (l : List Rn) : plainL (rws rc l) = true := rws_plain rc_plain l
abbrev z5 : List Value := [i0, i0, u0, u0, u0]
/-- A queue's value. -/
def qv (m : Nat) (n c : Nat) : Value := .agg #[.slice (some ⟨m, 0, none⟩) n c]
def qnil : Value := .agg #[.slice none 0 0]
def inI (x a : Int) : Bool := decide (1 ≤ x ∧ x ≤ a)
def okR (r : Rn) : Bool := inI r.id 16 && (inI r.each 8 && rt r.n r.w)
def okq : Int → List Rn → Bool
  | _, [] => true
  | last, r :: l => okR r && (decide (last < r.id) && okq r.id l)
theorem drop_cons {α : Type} {l : List α} {i : Nat} {a : α} (h : l[i]? = some a) : l.drop i = a :: l.drop (i + 1) := by
  obtain ⟨hi, rfl⟩ := List.getElem?_eq_some_iff.1 h
  exact List.drop_eq_getElem_cons hi
theorem inI_yes {x a : Int} (h : 1 ≤ x ∧ x ≤ a) : inI x a = true := decide_eq_true h


theorem p100 (x : Int) : Pure 100 [.int .i64 x] (.bool (inI x 16)) := by
  refine pure_of Try.func100 rfl Try.ntmps100 (by kernel_rfl) rfl (by simp) rfl ?_
  refine vc_seq ?_
  refine vc_go (by kernel_rfl) fun K hK => hK _ _ _ ?_
  clear hK K
  refine vc_seq ?_
  refine vc_reg (by kernel_rfl) fun K hK => ?_
  refine run_n (z := false) 3 (fun K' hK' => hK' _ _ _ ?_) (by decide)
  clear hK' K'
  refine vgo_case 5 rfl (fun g0 => ?_) (fun g0 => ?_)
  · -- split 0 at 1,3 true
    refine run_end (z := false) fun K' hK' => hK' _ _ _ (hK _ _ _ ?_)
    clear hK' K' hK K
    refine vc_ret ⟨.inr rfl, ?_⟩
    exact Eq.trans (b := some (.bool _)) rfl (fin_bb (by rw [Bool.eq_iff_iff]; simp only [inI, decide_eq_true_eq, decide_eq_false_iff_not, Bool.false_eq_true, false_iff] at *; omega))
  · -- split 0 at 1,3 false
    refine run_end (z := false) fun K' hK' => hK' _ _ _ (hK _ _ _ ?_)
    clear hK' K' hK K
    refine vc_ret ⟨.inr rfl, ?_⟩
    exact Eq.trans (b := some (.bool _)) rfl (fin_bb (by rw [Bool.eq_iff_iff]; simp only [inI, decide_eq_true_eq, decide_eq_false_iff_not, Bool.false_eq_true, false_iff] at *; omega))

theorem p110 (x : Int) : Pure 110 [.int .i64 x] (.bool (inI x 8)) := by
  refine pure_of Try.func110 rfl Try.ntmps110 (by kernel_rfl) rfl (by simp) rfl ?_
  refine vc_seq ?_
  refine vc_go (by kernel_rfl) fun K hK => hK _ _ _ ?_
  clear hK K
  refine vc_seq ?_
  refine vc_reg (by kernel_rfl) fun K hK => ?_
  refine run_n (z := false) 3 (fun K' hK' => hK' _ _ _ ?_) (by decide)
  clear hK' K'
  refine vgo_case 5 rfl (fun g0 => ?_) (fun g0 => ?_)
  · -- split 0 at 1,3 true
    refine run_end (z := false) fun K' hK' => hK' _ _ _ (hK _ _ _ ?_)
    clear hK' K' hK K
    refine vc_ret ⟨.inr rfl, ?_⟩
    exact Eq.trans (b := some (.bool _)) rfl (fin_bb (by rw [Bool.eq_iff_iff]; simp only [inI, decide_eq_true_eq, decide_eq_false_iff_not, Bool.false_eq_true, false_iff] at *; omega))
  · -- split 0 at 1,3 false
    refine run_end (z := false) fun K' hK' => hK' _ _ _ (hK _ _ _ ?_)
    clear hK' K' hK K
    refine vc_ret ⟨.inr rfl, ?_⟩
    exact Eq.trans (b := some (.bool _)) rfl (fin_bb (by rw [Bool.eq_iff_iff]; simp only [inI, decide_eq_true_eq, decide_eq_false_iff_not, Bool.false_eq_true, false_iff] at *; omega))

theorem p75a {r : Rn} (h : inI r.id 16 = false) : Pure 75 [rv r] (.int .i64 2) := by
  have h1 := p100 r.id
  rw [h] at h1
  refine pure_of Try.func75 rfl Try.ntmps75 (by kernel_rfl) rfl (by simp) rfl ?_
  refine vc_seq ?_
  refine vc_go (by kernel_rfl) fun K hK => hK _ _ _ ?_
  clear hK K
  refine vc_seq ?_
  refine vc_seq ?_
  refine vc_reg (by kernel_rfl) fun K hK => ?_
  refine run_n (z := false) 2 (fun K' hK' => hK' _ _ _ ?_) (by decide)
  clear hK' K'
  refine run_call (h1) rfl rfl rfl rfl ?_
  refine run_n (z := false) 2 (fun K' hK' => hK' _ _ _ ?_) (by decide)
  clear hK' K'
  refine vgo_known 7 (b := true) (rfl) ?_
  refine run_n (z := false) 6 (fun K' hK' => hK' _ _ _ ?_) (by decide)
  clear hK' K'
  refine vgo_known 13 (b := true) (rfl) ?_
  refine run_end (z := false) fun K' hK' => hK' _ _ _ (hK _ _ _ ?_)
  clear hK' K' hK K
  refine vc_cond (t := true) rfl (fun _ => ?_) (fun h => by cases h)
  refine vc_seq ?_
  refine vc_go (by kernel_rfl) fun K hK => hK _ _ _ ?_
  clear hK K
  exact vc_ret ⟨.inr rfl, rfl⟩

theorem p75b {r : Rn} (h : inI r.id 16 = true) (g : inI r.each 8 = false) : Pure 75 [rv r] (.int .i64 2) := by
  have h1 := p100 r.id
  have h2 := p110 r.each
  rw [h] at h1
  rw [g] at h2
  refine pure_of Try.func75 rfl Try.ntmps75 (by kernel_rfl) rfl (by simp) rfl ?_
  refine vc_seq ?_
  refine vc_go (by kernel_rfl) fun K hK => hK _ _ _ ?_
  clear hK K
  refine vc_seq ?_
  refine vc_seq ?_
  refine vc_reg (by kernel_rfl) fun K hK => ?_
  refine run_n (z := false) 2 (fun K' hK' => hK' _ _ _ ?_) (by decide)
  clear hK' K'
  refine run_call (h1) rfl rfl rfl rfl ?_
  refine run_n (z := false) 2 (fun K' hK' => hK' _ _ _ ?_) (by decide)
  clear hK' K'
  refine vgo_known 7 (b := false) (rfl) ?_
  refine run_n (z := false) 2 (fun K' hK' => hK' _ _ _ ?_) (by decide)
  clear hK' K'
  refine run_call (h2) rfl rfl rfl rfl ?_
  refine run_n (z := false) 3 (fun K' hK' => hK' _ _ _ ?_) (by decide)
  clear hK' K'
  refine vgo_known 13 (b := true) (rfl) ?_
  refine run_end (z := false) fun K' hK' => hK' _ _ _ (hK _ _ _ ?_)
  clear hK' K' hK K
  refine vc_cond (t := true) rfl (fun _ => ?_) (fun h => by cases h)
  refine vc_seq ?_
  refine vc_go (by kernel_rfl) fun K hK => hK _ _ _ ?_
  clear hK K
  exact vc_ret ⟨.inr rfl, rfl⟩

theorem p75c {r : Rn} (h : inI r.id 16 = true) (g : inI r.each 8 = true) (k : rt r.n r.w = false) : Pure 75 [rv r] (.int .i64 2) := by
  have h1 := p100 r.id
  have h2 := p110 r.each
  rw [h] at h1
  rw [g] at h2
  refine pure_of Try.func75 rfl Try.ntmps75 (by kernel_rfl) rfl (by simp) rfl ?_
  refine vc_seq ?_
  refine vc_go (by kernel_rfl) fun K hK => hK _ _ _ ?_
  clear hK K
  refine vc_seq ?_
  refine vc_seq ?_
  refine vc_reg (by kernel_rfl) fun K hK => ?_
  refine run_n (z := false) 2 (fun K' hK' => hK' _ _ _ ?_) (by decide)
  clear hK' K'
  refine run_call (h1) rfl rfl rfl rfl ?_
  refine run_n (z := false) 2 (fun K' hK' => hK' _ _ _ ?_) (by decide)
  clear hK' K'
  refine vgo_known 7 (b := false) (rfl) ?_
  refine run_n (z := false) 2 (fun K' hK' => hK' _ _ _ ?_) (by decide)
  clear hK' K'
  refine run_call (h2) rfl rfl rfl rfl ?_
  refine run_n (z := false) 3 (fun K' hK' => hK' _ _ _ ?_) (by decide)
  clear hK' K'
  refine vgo_known 13 (b := false) (rfl) ?_
  refine run_n (z := false) 2 (fun K' hK' => hK' _ _ _ ?_) (by decide)
  clear hK' K'
  refine run_call (p57n k) rfl rfl rfl rfl ?_
  refine run_end (z := false) fun K' hK' => hK' _ _ _ (hK _ _ _ ?_)
  clear hK' K' hK K
  refine vc_cond (t := true) rfl (fun _ => ?_) (fun h => by cases h)
  refine vc_seq ?_
  refine vc_go (by kernel_rfl) fun K hK => hK _ _ _ ?_
  clear hK K
  exact vc_ret ⟨.inr rfl, rfl⟩

theorem p75d {r : Rn} (h : inI r.id 16 = true) (g : inI r.each 8 = true) (k : rt r.n r.w = true) : Pure 75 [rv r] (.int .i64 0) := by
  have h1 := p100 r.id
  have h2 := p110 r.each
  rw [h] at h1
  rw [g] at h2
  refine pure_of Try.func75 rfl Try.ntmps75 (by kernel_rfl) rfl (by simp) rfl ?_
  refine vc_seq ?_
  refine vc_go (by kernel_rfl) fun K hK => hK _ _ _ ?_
  clear hK K
  refine vc_seq ?_
  refine vc_seq ?_
  refine vc_reg (by kernel_rfl) fun K hK => ?_
  refine run_n (z := false) 2 (fun K' hK' => hK' _ _ _ ?_) (by decide)
  clear hK' K'
  refine run_call (h1) rfl rfl rfl rfl ?_
  refine run_n (z := false) 2 (fun K' hK' => hK' _ _ _ ?_) (by decide)
  clear hK' K'
  refine vgo_known 7 (b := false) (rfl) ?_
  refine run_n (z := false) 2 (fun K' hK' => hK' _ _ _ ?_) (by decide)
  clear hK' K'
  refine run_call (h2) rfl rfl rfl rfl ?_
  refine run_n (z := false) 3 (fun K' hK' => hK' _ _ _ ?_) (by decide)
  clear hK' K'
  refine vgo_known 13 (b := false) (rfl) ?_
  refine run_n (z := false) 2 (fun K' hK' => hK' _ _ _ ?_) (by decide)
  clear hK' K'
  refine run_call (p57y k) rfl rfl rfl rfl ?_
  refine run_end (z := false) fun K' hK' => hK' _ _ _ (hK _ _ _ ?_)
  clear hK' K' hK K
  refine vc_cond (t := false) rfl (fun h => by cases h) (fun _ => ?_)
  refine vc_skip ?_
  refine vc_seq ?_
  refine vc_go (by kernel_rfl) fun K hK => hK _ _ _ ?_
  clear hK K
  exact vc_ret ⟨.inr rfl, rfl⟩

theorem p75y {r : Rn} (h : okR r = true) : Pure 75 [rv r] (.int .i64 0) := by
  simp only [okR, Bool.and_eq_true] at h
  exact p75d h.1 h.2.1 h.2.2
theorem p75n {r : Rn} (h : okR r = false) : Pure 75 [rv r] (.int .i64 2) := by
  cases h1 : inI r.id 16
  · exact p75a h1
  cases h2 : inI r.each 8
  · exact p75b h1 h2
  cases h3 : rt r.n r.w
  · exact p75c h1 h2 h3
  · simp [okR, h1, h2, h3] at h
theorem p75 (r : Rn) : Pure 75 [rv r] (.int .i64 (if okR r = true then 0 else 2)) := by
  cases h : okR r
  · exact p75n h
  · exact p75y h
theorem p85 {n w : Nat} (hn : n < 2 ^ 64) : Pure 85 [u64 n, u64 w] (fr n w) := by
  have e : fr n w = .agg #[.int .u64 0, .int .u64 (n : Int), .int .u64 (w : Int)] := by
    unfold fr
    rw [show n / 2 ^ 64 = 0 by omega, show n % 2 ^ 64 = n by omega]
    rfl
  rw [e]
  refine pure_of Try.func85 rfl Try.ntmps85 (by kernel_rfl) rfl (by simp) rfl ?_
  refine vc_seq ?_
  refine vc_go (by kernel_rfl) fun K hK => hK _ _ _ ?_
  clear hK K
  refine vc_seq ?_
  refine vc_go (by kernel_rfl) fun K hK => hK _ _ _ ?_
  clear hK K
  exact vc_ret ⟨.inr rfl, rfl⟩
theorem okq_step {last : Int} {a : Rn} {l : List Rn} (h : okR a = true) (hb : decide (a.id ≤ last) = false) : okq last (a :: l) = okq a.id l := by
  rw [decide_eq_false_iff_not] at hb
  have : decide (last < a.id) = true := decide_eq_true (by omega)
  simp [okq, h, this]
theorem okq_bad {last : Int} {a : Rn} {l : List Rn} (h : okR a = false) : okq last (a :: l) = false := by simp [okq, h]
theorem okq_low {last : Int} {a : Rn} {l : List Rn} (hb : decide (a.id ≤ last) = true) : okq last (a :: l) = false := by
  rw [decide_eq_true_eq] at hb
  have : decide (last < a.id) = false := decide_eq_false (by omega)
  simp [okq, this]
/-- What Check says. -/
def chk1 (l : List Rn) : Int := if okq 0 l = true then 0 else 200
theorem fin_i {a b : Int} (h : a = b) : some (Value.int .i64 a) = some (.int .i64 b) := by rw [h]

theorem p47 (l : List Rn) (c : Nat) (hl : l.length < 2 ^ 60) : RO 47 [qv 0 l.length c] [(0, rws rc l)] (.int .i64 (chk1 l)) := by
  refine ro_of _ 1 Try.func47 rfl Try.ntmps47 (by kernel_rfl) (by simp) rfl rfl (by simp) (by simp [rcs_plain]) ?_
  refine vc_seq ?_
  refine vc_go (by kernel_rfl) fun K hK => hK _ _ _ ?_
  clear hK K
  refine vc_seq ?_
  refine vc_go (by kernel_rfl) fun K hK => hK _ _ _ ?_
  clear hK K
  refine vc_seq ?_
  refine vc_seq ?_
  refine vc_go (by kernel_rfl) fun K hK => hK _ _ _ ?_
  clear hK K
  refine vc_block ?_
  refine vc_loopF (fun n s => ∃ (i : Nat) (last : Int), n = l.length - i ∧ i ≤ l.length ∧ okq 0 l = okq last (l.drop i) ∧ s = can [(2, .int .i64 0), (3, .int .i64 last), (7, .slice (some ⟨0, 0, none⟩) l.length c), (8, .int .i64 (l.length : Int)), (9, .int .i64 ((i : Nat) : Int))] [(0, .cells (rws rc l) 0 false)] 1) l.length ?_ ?_
  · exact ⟨_, fg_focus [(2, .int .i64 0), (3, .int .i64 0), (7, .slice (some ⟨0, 0, none⟩) l.length c), (8, .int .i64 (l.length : Int)), (9, .int .i64 ((0 : Nat) : Int))] [(0, .cells (rws rc l) 0 false)] 1 (by decide) ⟨rfl, rfl, rfl, rfl, rfl, trivial⟩ ⟨sb rfl, trivial⟩ rfl (bdH_one (by decide) (rcs_plain l)), 0, 0, rfl, Nat.zero_le _, rfl, rfl⟩
  · rintro n s ⟨i, last, hn, hi, hall, rfl⟩
    refine vc_seq ?_
    refine vc_go (by kernel_rfl) fun K hK => hK _ _ _ ?_
    clear hK K
    refine vc_seq ?_
    refine vc_cond rfl (fun c0 => ?_) (fun c0 => ?_)
    · -- cond 0 t10 true
      refine vc_skip ?_
      refine vc_seq ?_
      refine vc_block ?_
      refine vc_seq ?_
      have hlt := len_le c0
      obtain ⟨a, ha⟩ : ∃ a, l[i]? = some a := ⟨l[i], List.getElem?_eq_getElem hlt⟩
      cases hR : okR a
      · skip
        refine vc_reg (by kernel_rfl) fun K hK => ?_
        refine run_op (vex_ixs (j := i) rfl rfl rfl hlt rfl rfl) rfl ?_
        refine run_rd (vex_ldr rc_len (j := 0) (i := i) (d := rc a) rfl (Nat.zero_add _) rfl (rws_win rc l) rfl ha (by decide) rfl) rfl ?_
        refine run_end (z := false) fun K' hK' => hK' _ _ _ (hK _ _ _ ?_)
        clear hK' K' hK K
        refine vc_seq ?_
        refine vc_seq ?_
        refine vc_reg (by kernel_rfl) fun K hK => ?_
        refine run_n (z := false) 1 (fun K' hK' => hK' _ _ _ ?_) (by decide)
        clear hK' K'
        refine run_call (p75n hR) rfl rfl rfl rfl ?_
        refine run_n (z := false) 2 (fun K' hK' => hK' _ _ _ ?_) (by decide)
        clear hK' K'
        refine vgo_known 16 (b := true) (rfl) ?_
        refine run_end (z := false) fun K' hK' => hK' _ _ _ (hK _ _ _ ?_)
        clear hK' K' hK K
        refine vc_cond (t := true) rfl (fun _ => ?_) (fun h => by cases h)
        refine vc_seq ?_
        refine vc_go (by kernel_rfl) fun K hK => hK _ _ _ ?_
        clear hK K
        refine vc_ret ⟨.inr rfl, ?_⟩
        exact fin_i (by rw [chk1, hall, drop_cons ha, okq_bad hR]; rfl)
      · skip
        refine vc_reg (by kernel_rfl) fun K hK => ?_
        refine run_op (vex_ixs (j := i) rfl rfl rfl hlt rfl rfl) rfl ?_
        refine run_rd (vex_ldr rc_len (j := 0) (i := i) (d := rc a) rfl (Nat.zero_add _) rfl (rws_win rc l) rfl ha (by decide) rfl) rfl ?_
        refine run_end (z := false) fun K' hK' => hK' _ _ _ (hK _ _ _ ?_)
        clear hK' K' hK K
        refine vc_seq ?_
        refine vc_seq ?_
        refine vc_reg (by kernel_rfl) fun K hK => ?_
        refine run_n (z := false) 1 (fun K' hK' => hK' _ _ _ ?_) (by decide)
        clear hK' K'
        refine run_call (p75y hR) rfl rfl rfl rfl ?_
        refine run_n (z := false) 2 (fun K' hK' => hK' _ _ _ ?_) (by decide)
        clear hK' K'
        refine vgo_known 16 (b := false) (rfl) ?_
        refine run_end (z := false) fun K' hK' => hK' _ _ _ (hK _ _ _ ?_)
        clear hK' K' hK K
        refine vc_cond rfl (fun hb => ?_) (fun hb => ?_)
        · -- cond 1 t21 true
          refine vc_seq ?_
          refine vc_go (by kernel_rfl) fun K hK => hK _ _ _ ?_
          clear hK K
          refine vc_ret ⟨.inr rfl, ?_⟩
          exact fin_i (by rw [chk1, hall, drop_cons ha, okq_low hb]; rfl)
        · -- cond 1 t21 false
          refine vc_skip ?_
          refine vc_go (by kernel_rfl) fun K hK => hK _ _ _ ?_
          clear hK K
          refine vc_go (by kernel_rfl) fun K hK => hK _ _ _ ?_
          clear hK K
          exact ⟨_, fg_focus [(2, .int .i64 0), (3, .int .i64 a.id), (7, .slice (some ⟨0, 0, none⟩) l.length c), (8, .int .i64 (l.length : Int)), (9, .int .i64 ((i + 1 : Nat) : Int))] [(0, .cells (rws rc l) 0 false)] 1 (by decide) ⟨rfl, rfl, rfl, rfl, ii (wrapI (by omega) (by omega)), trivial⟩ ⟨sb rfl, trivial⟩ rfl (bdH_one (by decide) (rcs_plain l)), l.length - (i + 1), by omega, i + 1, a.id, rfl, hlt, by rw [hall, drop_cons ha]; exact okq_step hR hb, rfl⟩
    · -- cond 0 t10 false
      refine vc_exit ?_
      refine vc_seq ?_
      refine vc_go (by kernel_rfl) fun K hK => hK _ _ _ ?_
      clear hK K
      refine vc_ret ⟨.inr rfl, ?_⟩
      have hge := len_ge c0
      rw [List.drop_eq_nil_of_le hge] at hall
      exact fin_i (by rw [chk1, hall]; rfl)
end Go.Proofs.Ytdfkcijholopoaa.Vm
