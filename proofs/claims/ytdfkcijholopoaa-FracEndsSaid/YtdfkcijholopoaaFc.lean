/- Layer frac: behind, raised; the reference's fractions. -/
import Derived.Test.YtdfkcijholopoaaFb
namespace Go.Proofs.Ytdfkcijholopoaa.Vm
open Go Go.RowKit
set_option maxRecDepth 10000
set_option linter.unusedSimpArgs false
set_option linter.unusedVariables false

/-- Is n over w more than s below m over u? -/
def bh (n w m u s : Nat) : Bool := decide (n * u < (m - s * u) * w)
theorem rt_less {m u : Nat} (x : Nat) (h : rt m u = true) : rt (m - x) u = true := by
  have := rt_w h
  rw [rt, decide_eq_true_eq]; omega
theorem cmpW_bh (a b : Nat) : decide (cmpW a b < 0) = decide (a < b) := by
  rw [Bool.eq_iff_iff, decide_eq_true_eq, decide_eq_true_eq, cmpW_lt]


theorem p44n {n w m u s : Nat} (hr : (rt n w && rt m u) = false) : Pure 44 [fr n w, fr m u, u64 s] (.bool false) := by
  have h90 := p90b n w m u
  rw [hr] at h90
  refine pure_of Try.func44 rfl Try.ntmps44 (by kernel_rfl) rfl (by simp) rfl ?_
  refine vc_seq ?_
  refine vc_go (by kernel_rfl) fun K hK => hK _ _ _ ?_
  clear hK K
  refine vc_seq ?_
  refine vc_regD [(5, 8)] (by kernel_rfl) (by kernel_rfl) fun K hK => ?_
  refine runD_n (z := false) 3 (fun K' hK' => hK' _ _ _ _ ?_) (by decide)
  clear hK' K'
  refine runD_ro (fun _ => (4, 0)) (h90) ?_ rfl rfl rfl rfl rfl ?_
  · intro x hx
    simp only [List.mem_singleton] at hx
    subst hx
    exact ⟨_, _, _, rfl, fun i v hv => by rw [Nat.zero_add]; exact hv⟩
  refine runD_n (z := false) 4 (fun K' hK' => hK' _ _ _ _ ?_) (by decide)
  clear hK' K'
  skip
  skip
  refine runD_end (z := false) fun K' hK' => hK' _ _ _ _ (hK _ _ _ ?_)
  clear hK' K' hK K
  exact vc_ret ⟨.inr rfl, rfl⟩

theorem p44y {n w m u s : Nat} (hra : rt n w = true) (hrb : rt m u = true) (hs : s < 2 ^ 64) : Pure 44 [fr n w, fr m u, u64 s] (.bool (bh n w m u s)) := by
  have h90 := p90b n w m u
  rw [hra, hrb] at h90
  have rm := rt_w hrb
  refine pure_of Try.func44 rfl Try.ntmps44 (by kernel_rfl) rfl (by simp) rfl ?_
  refine vc_seq ?_
  refine vc_go (by kernel_rfl) fun K hK => hK _ _ _ ?_
  clear hK K
  refine vc_seq ?_
  refine vc_regD [(5, 8)] (by kernel_rfl) (by kernel_rfl) fun K hK => ?_
  refine runD_n (z := false) 3 (fun K' hK' => hK' _ _ _ _ ?_) (by decide)
  clear hK' K'
  refine runD_ro (fun _ => (4, 0)) (h90) ?_ rfl rfl rfl rfl rfl ?_
  · intro x hx
    simp only [List.mem_singleton] at hx
    subst hx
    exact ⟨_, _, _, rfl, fun i v hv => by rw [Nat.zero_add]; exact hv⟩
  refine runD_n (z := false) 4 (fun K' hK' => hK' _ _ _ _ ?_) (by decide)
  clear hK' K'
  refine runD_call (p93 (by omega) (by omega) hs) rfl rfl rfl rfl ?_
  refine runD_call (p42y hra (rt_less (s * u) hrb)) rfl rfl rfl rfl ?_
  refine runD_end (z := false) fun K' hK' => hK' _ _ _ _ (hK _ _ _ ?_)
  clear hK' K' hK K
  refine vc_ret ⟨.inr rfl, ?_⟩
  exact Eq.trans (b := some (.bool _)) rfl (fin_bb (cmpW_bh _ _))

theorem p67n {n w m u s : Nat} (hr : (rt n w && rt m u) = false) : Pure 67 [fr n w, fr m u, u64 s] (.tuple #[fr 0 0, .int .i64 150]) := by
  have h90 := p90b n w m u
  rw [hr] at h90
  refine pure_of Try.func67 rfl Try.ntmps67 (by kernel_rfl) rfl (by simp) rfl ?_
  refine vc_seq ?_
  refine vc_go (by kernel_rfl) fun K hK => hK _ _ _ ?_
  clear hK K
  refine vc_seq ?_
  refine vc_block ?_
  refine vc_seq ?_
  refine vc_reg (by kernel_rfl) fun K hK => ?_
  refine run_n (z := false) 3 (fun K' hK' => hK' _ _ _ ?_) (by decide)
  clear hK' K'
  refine run_ro (fun _ => (5, 0)) (h90) ?_ rfl rfl rfl rfl ?_
  · intro x hx
    simp only [List.mem_singleton] at hx
    subst hx
    exact ⟨_, _, _, rfl, fun i v hv => by rw [Nat.zero_add]; exact hv⟩
  refine run_end (z := false) fun K' hK' => hK' _ _ _ (hK _ _ _ ?_)
  clear hK' K' hK K
  refine vc_cond (t := true) rfl (fun _ => ?_) (fun h => by cases h)
  refine vc_seq ?_
  refine vc_go (by kernel_rfl) fun K hK => hK _ _ _ ?_
  clear hK K
  exact vc_ret ⟨.inr rfl, rfl⟩

theorem p67s {n w m u s : Nat} (hra : rt n w = true) (hrb : rt m u = true) (hs : s < 2 ^ 64) (hb : bh n w m u s = false) : Pure 67 [fr n w, fr m u, u64 s] (.tuple #[fr n w, .int .i64 0]) := by
  have h90 := p90b n w m u
  rw [hra, hrb] at h90
  have rm := rt_w hrb
  have h44 := p44y hra hrb hs
  rw [hb] at h44
  refine pure_of Try.func67 rfl Try.ntmps67 (by kernel_rfl) rfl (by simp) rfl ?_
  refine vc_seq ?_
  refine vc_go (by kernel_rfl) fun K hK => hK _ _ _ ?_
  clear hK K
  refine vc_seq ?_
  refine vc_block ?_
  refine vc_seq ?_
  refine vc_reg (by kernel_rfl) fun K hK => ?_
  refine run_n (z := false) 3 (fun K' hK' => hK' _ _ _ ?_) (by decide)
  clear hK' K'
  refine run_ro (fun _ => (5, 0)) (h90) ?_ rfl rfl rfl rfl ?_
  · intro x hx
    simp only [List.mem_singleton] at hx
    subst hx
    exact ⟨_, _, _, rfl, fun i v hv => by rw [Nat.zero_add]; exact hv⟩
  refine run_end (z := false) fun K' hK' => hK' _ _ _ (hK _ _ _ ?_)
  clear hK' K' hK K
  refine vc_cond (t := false) rfl (fun h => by cases h) (fun _ => ?_)
  refine vc_seq ?_
  refine vc_reg (by kernel_rfl) fun K hK => ?_
  refine run_n (z := false) 3 (fun K' hK' => hK' _ _ _ ?_) (by decide)
  clear hK' K'
  refine run_call (h44) rfl rfl rfl rfl ?_
  refine run_end (z := false) fun K' hK' => hK' _ _ _ (hK _ _ _ ?_)
  clear hK' K' hK K
  refine vc_cond (t := true) rfl (fun _ => ?_) (fun h => by cases h)
  refine vc_seq ?_
  refine vc_go (by kernel_rfl) fun K hK => hK _ _ _ ?_
  clear hK K
  exact vc_ret ⟨.inr rfl, rfl⟩

theorem p67y {n w m u s : Nat} (hra : rt n w = true) (hrb : rt m u = true) (hs : s < 2 ^ 64) (hb : bh n w m u s = true) (h : sc (m - s * u) w u true < 2 ^ 100) : Pure 67 [fr n w, fr m u, u64 s] (.tuple #[fr (sc (m - s * u) w u true) w, .int .i64 0]) := by
  have h90 := p90b n w m u
  rw [hra, hrb] at h90
  have rm := rt_w hrb
  have h44 := p44y hra hrb hs
  rw [hb] at h44
  refine pure_of Try.func67 rfl Try.ntmps67 (by kernel_rfl) rfl (by simp) rfl ?_
  refine vc_seq ?_
  refine vc_go (by kernel_rfl) fun K hK => hK _ _ _ ?_
  clear hK K
  refine vc_seq ?_
  refine vc_block ?_
  refine vc_seq ?_
  refine vc_reg (by kernel_rfl) fun K hK => ?_
  refine run_n (z := false) 3 (fun K' hK' => hK' _ _ _ ?_) (by decide)
  clear hK' K'
  refine run_ro (fun _ => (5, 0)) (h90) ?_ rfl rfl rfl rfl ?_
  · intro x hx
    simp only [List.mem_singleton] at hx
    subst hx
    exact ⟨_, _, _, rfl, fun i v hv => by rw [Nat.zero_add]; exact hv⟩
  refine run_end (z := false) fun K' hK' => hK' _ _ _ (hK _ _ _ ?_)
  clear hK' K' hK K
  refine vc_cond (t := false) rfl (fun h => by cases h) (fun _ => ?_)
  refine vc_seq ?_
  refine vc_reg (by kernel_rfl) fun K hK => ?_
  refine run_n (z := false) 3 (fun K' hK' => hK' _ _ _ ?_) (by decide)
  clear hK' K'
  refine run_call (h44) rfl rfl rfl rfl ?_
  refine run_end (z := false) fun K' hK' => hK' _ _ _ (hK _ _ _ ?_)
  clear hK' K' hK K
  refine vc_cond (t := false) rfl (fun h => by cases h) (fun _ => ?_)
  refine vc_skip ?_
  refine vc_seq ?_
  refine vc_regD [(2, 4)] (by kernel_rfl) (by kernel_rfl) fun K hK => ?_
  refine runD_n (z := false) 2 (fun K' hK' => hK' _ _ _ _ ?_) (by decide)
  clear hK' K'
  refine runD_call (p93 (by omega) (by omega) hs) rfl rfl rfl rfl ?_
  refine runD_n (z := false) 2 (fun K' hK' => hK' _ _ _ _ ?_) (by decide)
  clear hK' K'
  refine runD_call (p61y (rt_less (s * u) hrb) (rt_wt hra) h) rfl rfl rfl rfl ?_
  refine runD_end (z := false) fun K' hK' => hK' _ _ _ _ (hK _ _ _ ?_)
  clear hK' K' hK K
  exact vc_ret ⟨.inr rfl, rfl⟩

theorem p67r {n w m u s : Nat} (hra : rt n w = true) (hrb : rt m u = true) (hs : s < 2 ^ 64) (hb : bh n w m u s = true) (h : ¬ sc (m - s * u) w u true < 2 ^ 100) : Pure 67 [fr n w, fr m u, u64 s] (.tuple #[fr 0 0, .int .i64 131]) := by
  have h90 := p90b n w m u
  rw [hra, hrb] at h90
  have rm := rt_w hrb
  have h44 := p44y hra hrb hs
  rw [hb] at h44
  refine pure_of Try.func67 rfl Try.ntmps67 (by kernel_rfl) rfl (by simp) rfl ?_
  refine vc_seq ?_
  refine vc_go (by kernel_rfl) fun K hK => hK _ _ _ ?_
  clear hK K
  refine vc_seq ?_
  refine vc_block ?_
  refine vc_seq ?_
  refine vc_reg (by kernel_rfl) fun K hK => ?_
  refine run_n (z := false) 3 (fun K' hK' => hK' _ _ _ ?_) (by decide)
  clear hK' K'
  refine run_ro (fun _ => (5, 0)) (h90) ?_ rfl rfl rfl rfl ?_
  · intro x hx
    simp only [List.mem_singleton] at hx
    subst hx
    exact ⟨_, _, _, rfl, fun i v hv => by rw [Nat.zero_add]; exact hv⟩
  refine run_end (z := false) fun K' hK' => hK' _ _ _ (hK _ _ _ ?_)
  clear hK' K' hK K
  refine vc_cond (t := false) rfl (fun h => by cases h) (fun _ => ?_)
  refine vc_seq ?_
  refine vc_reg (by kernel_rfl) fun K hK => ?_
  refine run_n (z := false) 3 (fun K' hK' => hK' _ _ _ ?_) (by decide)
  clear hK' K'
  refine run_call (h44) rfl rfl rfl rfl ?_
  refine run_end (z := false) fun K' hK' => hK' _ _ _ (hK _ _ _ ?_)
  clear hK' K' hK K
  refine vc_cond (t := false) rfl (fun h => by cases h) (fun _ => ?_)
  refine vc_skip ?_
  refine vc_seq ?_
  refine vc_regD [(2, 4)] (by kernel_rfl) (by kernel_rfl) fun K hK => ?_
  refine runD_n (z := false) 2 (fun K' hK' => hK' _ _ _ _ ?_) (by decide)
  clear hK' K'
  refine runD_call (p93 (by omega) (by omega) hs) rfl rfl rfl rfl ?_
  refine runD_n (z := false) 2 (fun K' hK' => hK' _ _ _ _ ?_) (by decide)
  clear hK' K'
  refine runD_call (p61r (rt_less (s * u) hrb) (rt_wt hra) h) rfl rfl rfl rfl ?_
  refine runD_end (z := false) fun K' hK' => hK' _ _ _ _ (hK _ _ _ ?_)
  clear hK' K' hK K
  exact vc_ret ⟨.inr rfl, rfl⟩

theorem rt_hi {n w : Nat} (h : wt w = true) : decide (((n / 2 ^ 64 : Nat) : Int) < 68719476736) = rt n w := by
  have := wt_w h
  rw [rt, Bool.eq_iff_iff, decide_eq_true_eq, decide_eq_true_eq]; omega
theorem rt_no {n w : Nat} (h : wt w = false) : rt n w = false := rt_bad (by rw [h]; rfl)


theorem p55 (n w : Nat) : Pure 55 [fr n w] (.bool (rt n w)) := by
  refine pure_of Try.func55 rfl Try.ntmps55 (by kernel_rfl) rfl (by simp) rfl ?_
  refine vc_seq ?_
  refine vc_go (by kernel_rfl) fun K hK => hK _ _ _ ?_
  clear hK K
  refine vc_seq ?_
  refine vc_reg (by kernel_rfl) fun K hK => ?_
  refine run_n (z := false) 2 (fun K' hK' => hK' _ _ _ ?_) (by decide)
  clear hK' K'
  refine run_call (p59 w) rfl rfl rfl rfl ?_
  refine run_n (z := false) 1 (fun K' hK' => hK' _ _ _ ?_) (by decide)
  clear hK' K'
  refine vgo_case 6 rfl (fun g0 => ?_) (fun g0 => ?_)
  · -- split 0 at 1,4 true
    refine run_end (z := false) fun K' hK' => hK' _ _ _ (hK _ _ _ ?_)
    clear hK' K' hK K
    refine vc_ret ⟨.inr rfl, ?_⟩
    exact Eq.trans (b := some (.bool _)) rfl (fin_bb (rt_hi g0))
  · -- split 0 at 1,4 false
    refine run_end (z := false) fun K' hK' => hK' _ _ _ (hK _ _ _ ?_)
    clear hK' K' hK K
    refine vc_ret ⟨.inr rfl, ?_⟩
    rw [rt_no g0]
    rfl

theorem p109 {n : Nat} (hn : n < 2 ^ 64) : Pure 109 [u64 n] (b8 n) := by
  refine pure_of Try.func109 rfl Try.ntmps109 (by kernel_rfl) rfl (by simp) (plain_b8 n) ?_
  refine vc_seq ?_
  refine vc_go (by kernel_rfl) fun K hK => hK _ _ _ ?_
  clear hK K
  refine vc_seq ?_
  refine vc_reg (by kernel_rfl) fun K hK => ?_
  refine run_n (z := false) 2 (fun K' hK' => hK' _ _ _ ?_) (by decide)
  clear hK' K'
  refine run_call (p25s hn) rfl rfl rfl rfl ?_
  refine run_set (vex_st32 rfl rfl bits0_length rfl) rfl (by decide) rfl ?_
  refine run_end (z := false) fun K' hK' => hK' _ _ _ (hK _ _ _ ?_)
  clear hK' K' hK K
  refine vc_ret ⟨.inr rfl, ?_⟩
  change vresult _ [.cell 2 32] = _
  rw [vresult_one]
  exact vres_32 (m := 0) (f := fun k => n.testBit k) rfl rfl

theorem p56 {a v b w : Nat} (ha : a < 2 ^ 128) (hv : v < 2 ^ 64) (hb : b < 2 ^ 128) (hw : w < 2 ^ 64) : Pure 56 [fr a v, fr b w] (.int .i64 (cmpW (a * w) (b * v))) := by
  have m1 : a * w < 2 ^ 256 := Nat.lt_trans (mul_lt ha hw) (by decide)
  have m2 : b * v < 2 ^ 256 := Nat.lt_trans (mul_lt hb hv) (by decide)
  refine pure_of Try.func56 rfl Try.ntmps56 (by kernel_rfl) rfl (by simp) rfl ?_
  refine vc_seq ?_
  refine vc_go (by kernel_rfl) fun K hK => hK _ _ _ ?_
  clear hK K
  refine vc_seq ?_
  refine vc_regD [(2, 4), (1, 6), (2, 6), (4, 6), (5, 6)] (by kernel_rfl) (by kernel_rfl) fun K hK => ?_
  refine runD_n (z := false) 2 (fun K' hK' => hK' _ _ _ _ ?_) (by decide)
  clear hK' K'
  refine runD_call (p25 ha) rfl rfl rfl rfl ?_
  refine runD_n (z := false) 2 (fun K' hK' => hK' _ _ _ _ ?_) (by decide)
  clear hK' K'
  refine runD_call (p31s ha hw) rfl rfl rfl rfl ?_
  refine runD_n (z := false) 1 (fun K' hK' => hK' _ _ _ _ ?_) (by decide)
  clear hK' K'
  refine runD_set (vex_st32 rfl rfl bits0_length rfl) rfl (by decide) rfl rfl ?_
  refine runD_end (z := false) fun K' hK' => hK' _ _ _ _ (hK _ _ _ ?_)
  clear hK' K' hK K
  refine vc_seq ?_
  refine vc_regD [(2, 4), (1, 6), (2, 6), (4, 6), (5, 6)] (by kernel_rfl) (by kernel_rfl) fun K hK => ?_
  refine runD_n (z := false) 2 (fun K' hK' => hK' _ _ _ _ ?_) (by decide)
  clear hK' K'
  refine runD_call (p25 hb) rfl rfl rfl rfl ?_
  refine runD_n (z := false) 2 (fun K' hK' => hK' _ _ _ _ ?_) (by decide)
  clear hK' K'
  refine runD_call (p31s hb hv) rfl rfl rfl rfl ?_
  refine runD_n (z := false) 1 (fun K' hK' => hK' _ _ _ _ ?_) (by decide)
  clear hK' K'
  refine runD_set (vex_st32 rfl rfl bits0_length rfl) rfl (by decide) rfl rfl ?_
  refine runD_end (z := false) fun K' hK' => hK' _ _ _ _ (hK _ _ _ ?_)
  clear hK' K' hK K
  refine vc_seq ?_
  refine vc_seq ?_
  refine vc_reg (by kernel_rfl) fun K hK => ?_
  refine run_rd (vex_ld32 rfl rfl) rfl ?_
  refine run_rd (vex_ld32 rfl rfl) rfl ?_
  refine run_call (p32 m1 m2) rfl rfl rfl rfl ?_
  refine run_end (z := false) fun K' hK' => hK' _ _ _ (hK _ _ _ ?_)
  clear hK' K' hK K
  refine vc_cond rfl (fun c0 => ?_) (fun c0 => ?_)
  · -- cond 0 t21 true
    refine vc_seq ?_
    refine vc_go (by kernel_rfl) fun K hK => hK _ _ _ ?_
    clear hK K
    refine vc_ret ⟨.inr rfl, ?_⟩
    rw [show cmpW (a * w) (b * v) = -1 from if_pos (of_decide_eq_true c0)]
    rfl
  · -- cond 0 t21 false
    refine vc_skip ?_
    refine vc_seq ?_
    refine vc_seq ?_
    refine vc_reg (by kernel_rfl) fun K hK => ?_
    refine run_rd (vex_ld32 rfl rfl) rfl ?_
    refine run_rd (vex_ld32 rfl rfl) rfl ?_
    refine run_call (p32 m2 m1) rfl rfl rfl rfl ?_
    refine run_end (z := false) fun K' hK' => hK' _ _ _ (hK _ _ _ ?_)
    clear hK' K' hK K
    refine vc_cond rfl (fun c1 => ?_) (fun c1 => ?_)
    · -- cond 1 t24 true
      refine vc_seq ?_
      refine vc_go (by kernel_rfl) fun K hK => hK _ _ _ ?_
      clear hK K
      refine vc_ret ⟨.inr rfl, ?_⟩
      rw [show cmpW (a * w) (b * v) = 1 from (if_neg (of_decide_eq_false c0)).trans (if_neg (fun h => by have := of_decide_eq_true c1; omega))]
      rfl
    · -- cond 1 t24 false
      refine vc_skip ?_
      refine vc_seq ?_
      refine vc_go (by kernel_rfl) fun K hK => hK _ _ _ ?_
      clear hK K
      refine vc_ret ⟨.inr rfl, ?_⟩
      rw [show cmpW (a * w) (b * v) = 0 from cmpW_eq.2 (by have := of_decide_eq_false c0; have := of_decide_eq_false c1; omega)]
      rfl

theorem p108y {v : Nat} (h : v < 2 ^ 100) : Pure 108 [b8 v] (.tuple #[wd v, .bool true]) := by
  have hbig : decide (((v / 2 ^ 64 : Nat) : Int) ≥ 68719476736) = false := by rw [decide_eq_false_iff_not]; omega
  refine pure_of Try.func108 rfl Try.ntmps108 (by kernel_rfl) (by simp [plainL, plain_b8]) (by simp) rfl ?_
  refine vc_seq ?_
  refine vc_go (by kernel_rfl) fun K hK => hK _ _ _ ?_
  clear hK K
  refine vc_seq ?_
  refine vc_reg (by kernel_rfl) fun K hK => ?_
  refine run_rd (vex_ld32 rfl rfl) rfl ?_
  refine run_call (p26w (by omega)) rfl rfl rfl rfl ?_
  refine run_end (z := false) fun K' hK' => hK' _ _ _ (hK _ _ _ ?_)
  clear hK' K' hK K
  refine vc_seq ?_
  refine vc_seq ?_
  refine vc_go (by kernel_rfl) fun K hK => hK _ _ _ ?_
  clear hK K
  refine vc_cond (t := false) (bb hbig) (fun h => by cases h) (fun _ => ?_)
  refine vc_skip ?_
  refine vc_seq ?_
  refine vc_go (by kernel_rfl) fun K hK => hK _ _ _ ?_
  clear hK K
  exact vc_ret ⟨.inr rfl, rfl⟩

theorem p108a {v : Nat} (h : ¬ v < 2 ^ 100) (h2 : v < 2 ^ 128) : Pure 108 [b8 v] (.tuple #[wd 0, .bool false]) := by
  have hbig : decide (((v / 2 ^ 64 : Nat) : Int) ≥ 68719476736) = true := by rw [decide_eq_true_eq]; omega
  refine pure_of Try.func108 rfl Try.ntmps108 (by kernel_rfl) (by simp [plainL, plain_b8]) (by simp) rfl ?_
  refine vc_seq ?_
  refine vc_go (by kernel_rfl) fun K hK => hK _ _ _ ?_
  clear hK K
  refine vc_seq ?_
  refine vc_reg (by kernel_rfl) fun K hK => ?_
  refine run_rd (vex_ld32 rfl rfl) rfl ?_
  refine run_call (p26w h2) rfl rfl rfl rfl ?_
  refine run_end (z := false) fun K' hK' => hK' _ _ _ (hK _ _ _ ?_)
  clear hK' K' hK K
  refine vc_seq ?_
  refine vc_seq ?_
  refine vc_go (by kernel_rfl) fun K hK => hK _ _ _ ?_
  clear hK K
  refine vc_cond (t := true) (bb hbig) (fun _ => ?_) (fun h => by cases h)
  refine vc_seq ?_
  refine vc_go (by kernel_rfl) fun K hK => hK _ _ _ ?_
  clear hK K
  exact vc_ret ⟨.inr rfl, rfl⟩

theorem p108b {v : Nat} (h : v < 2 ^ 256) (h2 : ¬ v < 2 ^ 128) : Pure 108 [b8 v] (.tuple #[wd 0, .bool false]) := by
  have h26 := p26 h
  rw [decide_eq_false h2] at h26
  refine pure_of Try.func108 rfl Try.ntmps108 (by kernel_rfl) (by simp [plainL, plain_b8]) (by simp) rfl ?_
  refine vc_seq ?_
  refine vc_go (by kernel_rfl) fun K hK => hK _ _ _ ?_
  clear hK K
  refine vc_seq ?_
  refine vc_reg (by kernel_rfl) fun K hK => ?_
  refine run_rd (vex_ld32 rfl rfl) rfl ?_
  refine run_call (h26) rfl rfl rfl rfl ?_
  refine run_end (z := false) fun K' hK' => hK' _ _ _ (hK _ _ _ ?_)
  clear hK' K' hK K
  refine vc_seq ?_
  refine vc_seq ?_
  refine vc_go (by kernel_rfl) fun K hK => hK _ _ _ ?_
  clear hK K
  refine vc_cond (t := true) rfl (fun _ => ?_) (fun h => by cases h)
  refine vc_seq ?_
  refine vc_go (by kernel_rfl) fun K hK => hK _ _ _ ?_
  clear hK K
  exact vc_ret ⟨.inr rfl, rfl⟩

theorem p108n {v : Nat} (hv : v < 2 ^ 256) (h : ¬ v < 2 ^ 100) : Pure 108 [b8 v] (.tuple #[wd 0, .bool false]) := by
  by_cases h2 : v < 2 ^ 128
  · exact p108a h h2
  · exact p108b hv h2


theorem p64y {n w k : Nat} (hn : n < 2 ^ 128) (hk : k < 2 ^ 64) (h : n + k < 2 ^ 100) : Pure 64 [fr n w, u64 k] (.tuple #[wd (n + k), .bool true]) := by
  refine pure_of Try.func64 rfl Try.ntmps64 (by kernel_rfl) rfl (by simp) rfl ?_
  refine vc_seq ?_
  refine vc_go (by kernel_rfl) fun K hK => hK _ _ _ ?_
  clear hK K
  refine vc_seq ?_
  refine vc_reg (by kernel_rfl) fun K hK => ?_
  refine run_n (z := false) 2 (fun K' hK' => hK' _ _ _ ?_) (by decide)
  clear hK' K'
  refine run_call (p25 hn) rfl rfl rfl rfl ?_
  refine run_n (z := false) 1 (fun K' hK' => hK' _ _ _ ?_) (by decide)
  clear hK' K'
  refine run_call (p109 hk) rfl rfl rfl rfl ?_
  refine run_call (p35s (x := n) (y := k) (by omega)) rfl rfl rfl rfl ?_
  refine run_call (p108y h) rfl rfl rfl rfl ?_
  refine run_end (z := false) fun K' hK' => hK' _ _ _ (hK _ _ _ ?_)
  clear hK' K' hK K
  exact vc_ret ⟨.inr rfl, rfl⟩

theorem p64n {n w k : Nat} (hn : n < 2 ^ 128) (hk : k < 2 ^ 64) (h : ¬ n + k < 2 ^ 100) : Pure 64 [fr n w, u64 k] (.tuple #[wd 0, .bool false]) := by
  refine pure_of Try.func64 rfl Try.ntmps64 (by kernel_rfl) rfl (by simp) rfl ?_
  refine vc_seq ?_
  refine vc_go (by kernel_rfl) fun K hK => hK _ _ _ ?_
  clear hK K
  refine vc_seq ?_
  refine vc_reg (by kernel_rfl) fun K hK => ?_
  refine run_n (z := false) 2 (fun K' hK' => hK' _ _ _ ?_) (by decide)
  clear hK' K'
  refine run_call (p25 hn) rfl rfl rfl rfl ?_
  refine run_n (z := false) 1 (fun K' hK' => hK' _ _ _ ?_) (by decide)
  clear hK' K'
  refine run_call (p109 hk) rfl rfl rfl rfl ?_
  refine run_call (p35s (x := n) (y := k) (by omega)) rfl rfl rfl rfl ?_
  refine run_call (p108n (by omega) h) rfl rfl rfl rfl ?_
  refine run_end (z := false) fun K' hK' => hK' _ _ _ (hK _ _ _ ?_)
  clear hK' K' hK K
  exact vc_ret ⟨.inr rfl, rfl⟩

theorem p65a {x y : Nat} (hx : x < 2 ^ 128) (hy : y < 2 ^ 256) (h : x < y) : Pure 65 [b8 x, b8 y] (wd (x - y)) := by
  have hd : decide (x < y) = true := decide_eq_true h
  have e0 : x - y = 0 := by omega
  rw [e0]
  refine pure_of Try.func65 rfl Try.ntmps65 (by kernel_rfl) (by simp [plainL, plain_b8]) (by simp) rfl ?_
  refine vc_seq ?_
  refine vc_go (by kernel_rfl) fun K hK => hK _ _ _ ?_
  clear hK K
  refine vc_seq ?_
  refine vc_seq ?_
  refine vc_reg (by kernel_rfl) fun K hK => ?_
  refine run_rd (vex_ld32 rfl rfl) rfl ?_
  refine run_rd (vex_ld32 rfl rfl) rfl ?_
  refine run_call (p32 (x := x) (y := y) (by omega) hy) rfl rfl rfl rfl ?_
  refine run_end (z := false) fun K' hK' => hK' _ _ _ (hK _ _ _ ?_)
  clear hK' K' hK K
  refine vc_cond (t := true) (bb hd) (fun _ => ?_) (fun h => by cases h)
  refine vc_seq ?_
  refine vc_go (by kernel_rfl) fun K hK => hK _ _ _ ?_
  clear hK K
  exact vc_ret ⟨.inr rfl, rfl⟩

theorem p65b {x y : Nat} (hx : x < 2 ^ 128) (hy : y < 2 ^ 256) (h : ¬ x < y) : Pure 65 [b8 x, b8 y] (wd (x - y)) := by
  have hd : decide (x < y) = false := decide_eq_false h
  refine pure_of Try.func65 rfl Try.ntmps65 (by kernel_rfl) (by simp [plainL, plain_b8]) (by simp) rfl ?_
  refine vc_seq ?_
  refine vc_go (by kernel_rfl) fun K hK => hK _ _ _ ?_
  clear hK K
  refine vc_seq ?_
  refine vc_seq ?_
  refine vc_reg (by kernel_rfl) fun K hK => ?_
  refine run_rd (vex_ld32 rfl rfl) rfl ?_
  refine run_rd (vex_ld32 rfl rfl) rfl ?_
  refine run_call (p32 (x := x) (y := y) (by omega) hy) rfl rfl rfl rfl ?_
  refine run_end (z := false) fun K' hK' => hK' _ _ _ (hK _ _ _ ?_)
  clear hK' K' hK K
  refine vc_cond (t := false) (bb hd) (fun h => by cases h) (fun _ => ?_)
  refine vc_skip ?_
  refine vc_seq ?_
  refine vc_reg (by kernel_rfl) fun K hK => ?_
  refine run_rd (vex_ld32 rfl rfl) rfl ?_
  refine run_rd (vex_ld32 rfl rfl) rfl ?_
  refine run_call (p37 (x := x) (y := y) (by omega)) rfl rfl rfl rfl ?_
  refine run_call (p26w (v := x - y) (by omega)) rfl rfl rfl rfl ?_
  refine run_end (z := false) fun K' hK' => hK' _ _ _ (hK _ _ _ ?_)
  clear hK' K' hK K
  refine vc_seq ?_
  refine vc_go (by kernel_rfl) fun K hK => hK _ _ _ ?_
  clear hK K
  exact vc_ret ⟨.inr rfl, rfl⟩

theorem p65 {x y : Nat} (hx : x < 2 ^ 128) (hy : y < 2 ^ 256) : Pure 65 [b8 x, b8 y] (wd (x - y)) := by
  by_cases h : x < y
  · exact p65a hx hy h
  · exact p65b hx hy h


theorem p66ya {n v w : Nat} (hn : n < 2 ^ 128) (hv0 : 0 < v) (hv : v < 2 ^ 64) (hw : w < 2 ^ 64) (h : sc n w v true < 2 ^ 100) (h0 : n * w % v = 0) : Pure 66 [fr n v, u64 w] (.tuple #[wd (sc n w v true), .bool true]) := by
  have hnw : n * w < 2 ^ 192 := Nat.lt_of_lt_of_le (mul_lt hn hw) (by decide)
  have hq : n * w / v ≤ n * w := Nat.div_le_self _ _
  have hrv : n * w % v < v := Nat.mod_lt _ hv0
  have hz : (!decide (n * w % v = 0)) = false := by rw [decide_eq_true h0]; rfl
  have es : sc n w v true = n * w / v := by rw [sc, if_neg (fun h => by omega), Nat.add_zero]
  rw [es] at h
  rw [es]
  refine pure_of Try.func66 rfl Try.ntmps66 (by kernel_rfl) rfl (by simp) rfl ?_
  refine vc_seq ?_
  refine vc_go (by kernel_rfl) fun K hK => hK _ _ _ ?_
  clear hK K
  refine vc_seq ?_
  refine vc_regD [(2, 6), (4, 6), (1, 12), (2, 12), (4, 12), (6, 12), (7, 12), (8, 12), (1, 13), (2, 13), (4, 13), (6, 13), (7, 13), (8, 13), (12, 13)] (by kernel_rfl) (by kernel_rfl) fun K hK => ?_
  refine runD_n (z := false) 2 (fun K' hK' => hK' _ _ _ _ ?_) (by decide)
  clear hK' K'
  refine runD_call (p25 hn) rfl rfl rfl rfl ?_
  refine runD_n (z := false) 1 (fun K' hK' => hK' _ _ _ _ ?_) (by decide)
  clear hK' K'
  refine runD_call (p31s hn hw) rfl rfl rfl rfl ?_
  refine runD_n (z := false) 2 (fun K' hK' => hK' _ _ _ _ ?_) (by decide)
  clear hK' K'
  refine runD_call (p109 hv) rfl rfl rfl rfl ?_
  refine runD_call (p24 (Nat.lt_trans hnw (by decide)) hv0 (Nat.lt_trans hv (by decide))) rfl rfl rfl rfl ?_
  refine runD_n (z := false) 5 (fun K' hK' => hK' _ _ _ _ ?_) (by decide)
  clear hK' K'
  refine runD_set (vex_st32 rfl rfl bits0_length rfl) rfl (by decide) rfl rfl ?_
  refine runD_set (vex_st32 rfl rfl bits0_length rfl) rfl (by decide) rfl rfl ?_
  refine runD_end (z := false) fun K' hK' => hK' _ _ _ _ (hK _ _ _ ?_)
  clear hK' K' hK K
  refine vc_seq ?_
  refine vc_seq ?_
  refine vc_reg (by kernel_rfl) fun K hK => ?_
  refine run_rd (vex_ld32 rfl rfl) rfl ?_
  refine run_n (z := false) 1 (fun K' hK' => hK' _ _ _ ?_) (by decide)
  clear hK' K'
  refine run_op (vex_ne32 (f := fun k => (n * w % v).testBit k) (g := fun _ => false) (b := decide (n * w % v = 0)) rfl agg0 (bits_zero (by omega))) rfl ?_
  refine run_end (z := false) fun K' hK' => hK' _ _ _ (hK _ _ _ ?_)
  clear hK' K' hK K
  refine vc_cond (t := false) (bb hz) (fun h => by cases h) (fun _ => ?_)
  refine vc_skip ?_
  refine vc_seq ?_
  refine vc_reg (by kernel_rfl) fun K hK => ?_
  refine run_rd (vex_ld32 rfl rfl) rfl ?_
  refine run_call (p108y h) rfl rfl rfl rfl ?_
  refine run_end (z := false) fun K' hK' => hK' _ _ _ (hK _ _ _ ?_)
  clear hK' K' hK K
  exact vc_ret ⟨.inr rfl, rfl⟩

theorem p66yb {n v w : Nat} (hn : n < 2 ^ 128) (hv0 : 0 < v) (hv : v < 2 ^ 64) (hw : w < 2 ^ 64) (h : sc n w v true < 2 ^ 100) (h0 : ¬ n * w % v = 0) : Pure 66 [fr n v, u64 w] (.tuple #[wd (sc n w v true), .bool true]) := by
  have hnw : n * w < 2 ^ 192 := Nat.lt_of_lt_of_le (mul_lt hn hw) (by decide)
  have hq : n * w / v ≤ n * w := Nat.div_le_self _ _
  have hrv : n * w % v < v := Nat.mod_lt _ hv0
  have hz : (!decide (n * w % v = 0)) = true := by rw [decide_eq_false h0]; rfl
  have es : sc n w v true = n * w / v + 1 := by rw [sc, if_pos ⟨rfl, by omega⟩]
  rw [es] at h
  rw [es]
  refine pure_of Try.func66 rfl Try.ntmps66 (by kernel_rfl) rfl (by simp) rfl ?_
  refine vc_seq ?_
  refine vc_go (by kernel_rfl) fun K hK => hK _ _ _ ?_
  clear hK K
  refine vc_seq ?_
  refine vc_regD [(2, 6), (4, 6), (1, 12), (2, 12), (4, 12), (6, 12), (7, 12), (8, 12), (1, 13), (2, 13), (4, 13), (6, 13), (7, 13), (8, 13), (12, 13)] (by kernel_rfl) (by kernel_rfl) fun K hK => ?_
  refine runD_n (z := false) 2 (fun K' hK' => hK' _ _ _ _ ?_) (by decide)
  clear hK' K'
  refine runD_call (p25 hn) rfl rfl rfl rfl ?_
  refine runD_n (z := false) 1 (fun K' hK' => hK' _ _ _ _ ?_) (by decide)
  clear hK' K'
  refine runD_call (p31s hn hw) rfl rfl rfl rfl ?_
  refine runD_n (z := false) 2 (fun K' hK' => hK' _ _ _ _ ?_) (by decide)
  clear hK' K'
  refine runD_call (p109 hv) rfl rfl rfl rfl ?_
  refine runD_call (p24 (Nat.lt_trans hnw (by decide)) hv0 (Nat.lt_trans hv (by decide))) rfl rfl rfl rfl ?_
  refine runD_n (z := false) 5 (fun K' hK' => hK' _ _ _ _ ?_) (by decide)
  clear hK' K'
  refine runD_set (vex_st32 rfl rfl bits0_length rfl) rfl (by decide) rfl rfl ?_
  refine runD_set (vex_st32 rfl rfl bits0_length rfl) rfl (by decide) rfl rfl ?_
  refine runD_end (z := false) fun K' hK' => hK' _ _ _ _ (hK _ _ _ ?_)
  clear hK' K' hK K
  refine vc_seq ?_
  refine vc_seq ?_
  refine vc_reg (by kernel_rfl) fun K hK => ?_
  refine run_rd (vex_ld32 rfl rfl) rfl ?_
  refine run_n (z := false) 1 (fun K' hK' => hK' _ _ _ ?_) (by decide)
  clear hK' K'
  refine run_op (vex_ne32 (f := fun k => (n * w % v).testBit k) (g := fun _ => false) (b := decide (n * w % v = 0)) rfl agg0 (bits_zero (by omega))) rfl ?_
  refine run_end (z := false) fun K' hK' => hK' _ _ _ (hK _ _ _ ?_)
  clear hK' K' hK K
  refine vc_cond (t := true) (bb hz) (fun _ => ?_) (fun h => by cases h)
  refine vc_regD [(0, 1)] (by kernel_rfl) (by kernel_rfl) fun K hK => ?_
  refine runD_rd (vex_ld32 rfl rfl) rfl rfl ?_
  refine runD_call (p109 (n := 1) (by decide)) rfl rfl rfl rfl ?_
  refine runD_call (p35s (x := n * w / v) (y := 1) (by omega)) rfl rfl rfl rfl ?_
  refine runD_set (vex_st32 rfl rfl (bl_length _) rfl) rfl (by decide) rfl rfl ?_
  refine runD_end (z := false) fun K' hK' => hK' _ _ _ _ (hK _ _ _ ?_)
  clear hK' K' hK K
  refine vc_seq ?_
  refine vc_reg (by kernel_rfl) fun K hK => ?_
  refine run_rd (vex_ld32 rfl rfl) rfl ?_
  refine run_call (p108y h) rfl rfl rfl rfl ?_
  refine run_end (z := false) fun K' hK' => hK' _ _ _ (hK _ _ _ ?_)
  clear hK' K' hK K
  exact vc_ret ⟨.inr rfl, rfl⟩

theorem p66na {n v w : Nat} (hn : n < 2 ^ 128) (hv0 : 0 < v) (hv : v < 2 ^ 64) (hw : w < 2 ^ 64) (h : ¬ sc n w v true < 2 ^ 100) (h0 : n * w % v = 0) : Pure 66 [fr n v, u64 w] (.tuple #[wd 0, .bool false]) := by
  have hnw : n * w < 2 ^ 192 := Nat.lt_of_lt_of_le (mul_lt hn hw) (by decide)
  have hq : n * w / v ≤ n * w := Nat.div_le_self _ _
  have hrv : n * w % v < v := Nat.mod_lt _ hv0
  have hz : (!decide (n * w % v = 0)) = false := by rw [decide_eq_true h0]; rfl
  have es : sc n w v true = n * w / v := by rw [sc, if_neg (fun h => by omega), Nat.add_zero]
  rw [es] at h
  refine pure_of Try.func66 rfl Try.ntmps66 (by kernel_rfl) rfl (by simp) rfl ?_
  refine vc_seq ?_
  refine vc_go (by kernel_rfl) fun K hK => hK _ _ _ ?_
  clear hK K
  refine vc_seq ?_
  refine vc_regD [(2, 6), (4, 6), (1, 12), (2, 12), (4, 12), (6, 12), (7, 12), (8, 12), (1, 13), (2, 13), (4, 13), (6, 13), (7, 13), (8, 13), (12, 13)] (by kernel_rfl) (by kernel_rfl) fun K hK => ?_
  refine runD_n (z := false) 2 (fun K' hK' => hK' _ _ _ _ ?_) (by decide)
  clear hK' K'
  refine runD_call (p25 hn) rfl rfl rfl rfl ?_
  refine runD_n (z := false) 1 (fun K' hK' => hK' _ _ _ _ ?_) (by decide)
  clear hK' K'
  refine runD_call (p31s hn hw) rfl rfl rfl rfl ?_
  refine runD_n (z := false) 2 (fun K' hK' => hK' _ _ _ _ ?_) (by decide)
  clear hK' K'
  refine runD_call (p109 hv) rfl rfl rfl rfl ?_
  refine runD_call (p24 (Nat.lt_trans hnw (by decide)) hv0 (Nat.lt_trans hv (by decide))) rfl rfl rfl rfl ?_
  refine runD_n (z := false) 5 (fun K' hK' => hK' _ _ _ _ ?_) (by decide)
  clear hK' K'
  refine runD_set (vex_st32 rfl rfl bits0_length rfl) rfl (by decide) rfl rfl ?_
  refine runD_set (vex_st32 rfl rfl bits0_length rfl) rfl (by decide) rfl rfl ?_
  refine runD_end (z := false) fun K' hK' => hK' _ _ _ _ (hK _ _ _ ?_)
  clear hK' K' hK K
  refine vc_seq ?_
  refine vc_seq ?_
  refine vc_reg (by kernel_rfl) fun K hK => ?_
  refine run_rd (vex_ld32 rfl rfl) rfl ?_
  refine run_n (z := false) 1 (fun K' hK' => hK' _ _ _ ?_) (by decide)
  clear hK' K'
  refine run_op (vex_ne32 (f := fun k => (n * w % v).testBit k) (g := fun _ => false) (b := decide (n * w % v = 0)) rfl agg0 (bits_zero (by omega))) rfl ?_
  refine run_end (z := false) fun K' hK' => hK' _ _ _ (hK _ _ _ ?_)
  clear hK' K' hK K
  refine vc_cond (t := false) (bb hz) (fun h => by cases h) (fun _ => ?_)
  refine vc_skip ?_
  refine vc_seq ?_
  refine vc_reg (by kernel_rfl) fun K hK => ?_
  refine run_rd (vex_ld32 rfl rfl) rfl ?_
  refine run_call (p108n (by omega) h) rfl rfl rfl rfl ?_
  refine run_end (z := false) fun K' hK' => hK' _ _ _ (hK _ _ _ ?_)
  clear hK' K' hK K
  exact vc_ret ⟨.inr rfl, rfl⟩

theorem p66nb {n v w : Nat} (hn : n < 2 ^ 128) (hv0 : 0 < v) (hv : v < 2 ^ 64) (hw : w < 2 ^ 64) (h : ¬ sc n w v true < 2 ^ 100) (h0 : ¬ n * w % v = 0) : Pure 66 [fr n v, u64 w] (.tuple #[wd 0, .bool false]) := by
  have hnw : n * w < 2 ^ 192 := Nat.lt_of_lt_of_le (mul_lt hn hw) (by decide)
  have hq : n * w / v ≤ n * w := Nat.div_le_self _ _
  have hrv : n * w % v < v := Nat.mod_lt _ hv0
  have hz : (!decide (n * w % v = 0)) = true := by rw [decide_eq_false h0]; rfl
  have es : sc n w v true = n * w / v + 1 := by rw [sc, if_pos ⟨rfl, by omega⟩]
  rw [es] at h
  refine pure_of Try.func66 rfl Try.ntmps66 (by kernel_rfl) rfl (by simp) rfl ?_
  refine vc_seq ?_
  refine vc_go (by kernel_rfl) fun K hK => hK _ _ _ ?_
  clear hK K
  refine vc_seq ?_
  refine vc_regD [(2, 6), (4, 6), (1, 12), (2, 12), (4, 12), (6, 12), (7, 12), (8, 12), (1, 13), (2, 13), (4, 13), (6, 13), (7, 13), (8, 13), (12, 13)] (by kernel_rfl) (by kernel_rfl) fun K hK => ?_
  refine runD_n (z := false) 2 (fun K' hK' => hK' _ _ _ _ ?_) (by decide)
  clear hK' K'
  refine runD_call (p25 hn) rfl rfl rfl rfl ?_
  refine runD_n (z := false) 1 (fun K' hK' => hK' _ _ _ _ ?_) (by decide)
  clear hK' K'
  refine runD_call (p31s hn hw) rfl rfl rfl rfl ?_
  refine runD_n (z := false) 2 (fun K' hK' => hK' _ _ _ _ ?_) (by decide)
  clear hK' K'
  refine runD_call (p109 hv) rfl rfl rfl rfl ?_
  refine runD_call (p24 (Nat.lt_trans hnw (by decide)) hv0 (Nat.lt_trans hv (by decide))) rfl rfl rfl rfl ?_
  refine runD_n (z := false) 5 (fun K' hK' => hK' _ _ _ _ ?_) (by decide)
  clear hK' K'
  refine runD_set (vex_st32 rfl rfl bits0_length rfl) rfl (by decide) rfl rfl ?_
  refine runD_set (vex_st32 rfl rfl bits0_length rfl) rfl (by decide) rfl rfl ?_
  refine runD_end (z := false) fun K' hK' => hK' _ _ _ _ (hK _ _ _ ?_)
  clear hK' K' hK K
  refine vc_seq ?_
  refine vc_seq ?_
  refine vc_reg (by kernel_rfl) fun K hK => ?_
  refine run_rd (vex_ld32 rfl rfl) rfl ?_
  refine run_n (z := false) 1 (fun K' hK' => hK' _ _ _ ?_) (by decide)
  clear hK' K'
  refine run_op (vex_ne32 (f := fun k => (n * w % v).testBit k) (g := fun _ => false) (b := decide (n * w % v = 0)) rfl agg0 (bits_zero (by omega))) rfl ?_
  refine run_end (z := false) fun K' hK' => hK' _ _ _ (hK _ _ _ ?_)
  clear hK' K' hK K
  refine vc_cond (t := true) (bb hz) (fun _ => ?_) (fun h => by cases h)
  refine vc_regD [(0, 1)] (by kernel_rfl) (by kernel_rfl) fun K hK => ?_
  refine runD_rd (vex_ld32 rfl rfl) rfl rfl ?_
  refine runD_call (p109 (n := 1) (by decide)) rfl rfl rfl rfl ?_
  refine runD_call (p35s (x := n * w / v) (y := 1) (by omega)) rfl rfl rfl rfl ?_
  refine runD_set (vex_st32 rfl rfl (bl_length _) rfl) rfl (by decide) rfl rfl ?_
  refine runD_end (z := false) fun K' hK' => hK' _ _ _ _ (hK _ _ _ ?_)
  clear hK' K' hK K
  refine vc_seq ?_
  refine vc_reg (by kernel_rfl) fun K hK => ?_
  refine run_rd (vex_ld32 rfl rfl) rfl ?_
  refine run_call (p108n (by omega) h) rfl rfl rfl rfl ?_
  refine run_end (z := false) fun K' hK' => hK' _ _ _ (hK _ _ _ ?_)
  clear hK' K' hK K
  exact vc_ret ⟨.inr rfl, rfl⟩

theorem p66y {n v w : Nat} (hn : n < 2 ^ 128) (hv0 : 0 < v) (hv : v < 2 ^ 64) (hw : w < 2 ^ 64) (h : sc n w v true < 2 ^ 100) : Pure 66 [fr n v, u64 w] (.tuple #[wd (sc n w v true), .bool true]) := by
  by_cases h0 : n * w % v = 0
  · exact p66ya hn hv0 hv hw h h0
  · exact p66yb hn hv0 hv hw h h0


theorem p66n {n v w : Nat} (hn : n < 2 ^ 128) (hv0 : 0 < v) (hv : v < 2 ^ 64) (hw : w < 2 ^ 64) (h : ¬ sc n w v true < 2 ^ 100) : Pure 66 [fr n v, u64 w] (.tuple #[wd 0, .bool false]) := by
  by_cases h0 : n * w % v = 0
  · exact p66na hn hv0 hv hw h h0
  · exact p66nb hn hv0 hv hw h h0

end Go.Proofs.Ytdfkcijholopoaa.Vm
