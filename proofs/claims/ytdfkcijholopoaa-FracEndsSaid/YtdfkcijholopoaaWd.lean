/- Layer wide: a product of a number. -/
import Derived.Test.YtdfkcijholopoaaWc
namespace Go.Proofs.Ytdfkcijholopoaa.Vm
open Go Go.RowKit
set_option maxRecDepth 10000
set_option linter.unusedSimpArgs false
set_option linter.unusedVariables false

theorem put_eq (A j y : Nat) : put A j y + lb A j * 2 ^ (32 * j) = A + y * 2 ^ (32 * j) := by
  have := lb_le A j
  unfold put
  generalize lb A j * 2 ^ (32 * j) = a at *
  generalize y * 2 ^ (32 * j) = b at *
  omega
/-- One step of a pass that adds: what is carried goes on. -/
theorem pass_step {A c j w : Nat} : put A j ((c + (lb A j + w)) % 2 ^ 32) + (c + (lb A j + w)) / 2 ^ 32 * 2 ^ (32 * (j + 1)) = A + c * 2 ^ (32 * j) + w * 2 ^ (32 * j) := by
  have h1 := put_eq A j ((c + (lb A j + w)) % 2 ^ 32)
  have h2 : 2 ^ (32 * (j + 1)) = 2 ^ 32 * 2 ^ (32 * j) := by rw [← Nat.pow_add]; exact congrArg (2 ^ ·) (by omega)
  have h3 : (c + (lb A j + w)) % 2 ^ 32 * 2 ^ (32 * j) + (c + (lb A j + w)) / 2 ^ 32 * 2 ^ (32 * (j + 1)) = c * 2 ^ (32 * j) + lb A j * 2 ^ (32 * j) + w * 2 ^ (32 * j) := by
    rw [h2, ← Nat.mul_assoc, ← Nat.add_mul, Nat.mul_comm (_ / _) (2 ^ 32), Nat.mod_add_div, Nat.add_mul, Nat.add_mul, Nat.add_assoc]
  generalize (c + (lb A j + w)) / 2 ^ 32 * 2 ^ (32 * (j + 1)) = a at *
  generalize (c + (lb A j + w)) % 2 ^ 32 * 2 ^ (32 * j) = b at *
  generalize lb A j * 2 ^ (32 * j) = d at *
  omega
theorem plus_step {A c k r : Nat} (h : A + c * 2 ^ (32 * k) = r) : put A k ((c + (lb A k + 0)) % 2 ^ 32) + (c + (lb A k + 0)) / 2 ^ 32 * 2 ^ (32 * (k + 1)) = r := by
  have h1 := pass_step (A := A) (c := c) (j := k) (w := 0)
  rw [h1, h, Nat.zero_mul]
  rfl
theorem mod_step (v k : Nat) : v % 2 ^ (32 * (k + 1)) = v % 2 ^ (32 * k) + lb v k * 2 ^ (32 * k) := by
  have h2 : 2 ^ (32 * (k + 1)) = 2 ^ (32 * k) * 2 ^ 32 := by rw [← Nat.pow_add]; exact congrArg (2 ^ ·) (by omega)
  rw [h2, Nat.mod_mul, lb, Nat.mul_comm (2 ^ (32 * k))]
theorem times_step {A c old f v k i : Nat} (h : A + c * 2 ^ (32 * (k + i)) = old + f * 2 ^ (32 * i) * (v % 2 ^ (32 * k))) :
    put A (k + i) ((c + (lb A (k + i) + lb v k * f)) % 2 ^ 32) + (c + (lb A (k + i) + lb v k * f)) / 2 ^ 32 * 2 ^ (32 * (k + 1 + i)) = old + f * 2 ^ (32 * i) * (v % 2 ^ (32 * (k + 1))) := by
  have h1 := pass_step (A := A) (c := c) (j := k + i) (w := lb v k * f)
  rw [show k + 1 + i = k + i + 1 by omega, h1, h, mod_step]
  have h2 : 2 ^ (32 * (k + i)) = 2 ^ (32 * i) * 2 ^ (32 * k) := by rw [← Nat.pow_add]; exact congrArg (2 ^ ·) (by omega)
  have e : lb v k * f * (2 ^ (32 * i) * 2 ^ (32 * k)) = f * 2 ^ (32 * i) * (lb v k * 2 ^ (32 * k)) := by
    generalize 2 ^ (32 * i) = a
    generalize 2 ^ (32 * k) = b
    generalize lb v k = d
    rw [Nat.mul_comm d f, Nat.mul_assoc, Nat.mul_assoc, Nat.mul_left_comm d a b]
  rw [h2, e, Nat.add_assoc, ← Nat.mul_add]
theorem times_lt {c x y f : Nat} (hc : c < 2 ^ 32) (hx : x < 2 ^ 32) (hy : y < 2 ^ 32) (hf : f < 2 ^ 32) : c + (x + y * f) < 2 ^ 64 := by
  have : y * f ≤ (2 ^ 32 - 1) * (2 ^ 32 - 1) := Nat.mul_le_mul (by omega) (by omega)
  omega
theorem times_raw {c x y f : Nat} (hc : c < 2 ^ 32) (hx : x < 2 ^ 32) (hy : y < 2 ^ 32) (hf : f < 2 ^ 32) : IntKind.u64.wrap ((c : Int) + IntKind.u64.wrap ((x : Int) + IntKind.u64.wrap ((y : Int) * (f : Int)))) = ((c + (x + y * f) : Nat) : Int) := by
  have := times_lt hc hx hy hf
  have e : ((y : Int) * (f : Int)) = ((y * f : Nat) : Int) := by simp
  rw [e]
  generalize y * f = z at *
  rw [wrap64, wrap64, wrap64]
  omega
theorem pass_end0 {A c old f v k : Nat} (h : A + c * 2 ^ (32 * (k + 0)) = old + f * 2 ^ (32 * 0) * (v % 2 ^ (32 * k))) (hk : k = 7) (hA : A < 2 ^ 224) (hv : v < 2 ^ 224) : A = (old + f * v) % 2 ^ 224 := by
  subst hk
  rw [Nat.mod_eq_of_lt hv, show (2 : Nat) ^ (32 * 0) = 1 from rfl, Nat.mul_one, show 32 * (7 + 0) = 224 from rfl] at h
  generalize f * v = w at *
  rw [← h, Nat.add_mul_mod_self_right, Nat.mod_eq_of_lt hA]
theorem pass_end1 {A c old f v k : Nat} (h : A + c * 2 ^ (32 * (k + 1)) = old + f * 2 ^ (32 * 1) * (v % 2 ^ (32 * k))) (hk : k = 6) (hA : A < 2 ^ 224) : A = (old + f * 2 ^ 32 * v) % 2 ^ 224 := by
  subst hk
  rw [show 32 * (6 + 1) = 224 from rfl, show 32 * 1 = 32 from rfl, show 32 * 6 = 192 from rfl] at h
  have h2 : f * 2 ^ 32 * v = f * 2 ^ 32 * (v % 2 ^ 192) + f * (v / 2 ^ 192) * 2 ^ 224 := by
    have := (Nat.mod_add_div v (2 ^ 192)).symm
    generalize v % 2 ^ 192 = r at *
    generalize v / 2 ^ 192 = q at *
    subst this
    rw [Nat.mul_add]
    congr 1
    rw [show (2 : Nat) ^ 224 = 2 ^ 32 * 2 ^ 192 from rfl]
    generalize (2 : Nat) ^ 192 = a
    generalize (2 : Nat) ^ 32 = b
    rw [Nat.mul_assoc, Nat.mul_assoc, Nat.mul_comm q, Nat.mul_assoc]
  rw [h2, ← Nat.add_assoc, ← h, Nat.add_mul_mod_self_right, Nat.add_mul_mod_self_right, Nat.mod_eq_of_lt hA]
theorem plus_end {A c old w : Nat} (h : A + c * 2 ^ (32 * 7) = old + w) (hA : A < 2 ^ 224) : A = (old + w) % 2 ^ 224 := by
  rw [show 32 * 7 = 224 from rfl] at h
  rw [← h, Nat.add_mul_mod_self_right, Nat.mod_eq_of_lt hA]
theorem times_all {v m more A1 A2 A3 A4 : Nat} (h1 : A1 = (0 + m % 2 ^ 32 * v) % 2 ^ 224) (h2 : A2 = (A1 + m / 2 ^ 32 * 2 ^ 32 * v) % 2 ^ 224) (h3 : A3 = (A2 + more % 2 ^ 32 * 2 ^ (32 * 0)) % 2 ^ 224) (h4 : A4 = (A3 + more / 2 ^ 32 * 2 ^ (32 * 1)) % 2 ^ 224) :
    A4 = (v * m + more) % 2 ^ 224 := by
  have e : v * m = m % 2 ^ 32 * v + m / 2 ^ 32 * 2 ^ 32 * v := by
    rw [← Nat.add_mul, Nat.mul_comm (m / 2 ^ 32), Nat.mod_add_div, Nat.mul_comm]
  have e' : more = more % 2 ^ 32 * 2 ^ (32 * 0) + more / 2 ^ 32 * 2 ^ (32 * 1) := by omega
  rw [e]
  generalize m % 2 ^ 32 * v = a at *
  generalize m / 2 ^ 32 * 2 ^ 32 * v = b at *
  generalize more % 2 ^ 32 * 2 ^ (32 * 0) = d at *
  generalize more / 2 ^ 32 * 2 ^ (32 * 1) = g at *
  omega
theorem agg2 {a b c d : Int} (h : a = c) (h' : b = d) : Value.agg #[.int .u64 a, .int .u64 b] = .agg #[.int .u64 c, .int .u64 d] := by rw [h, h']
theorem iu {a b : Int} (h : a = b) : Value.int .u64 a = .int .u64 b := by rw [h]
theorem ii {a b : Int} (h : a = b) : Value.int .i64 a = .int .i64 b := by rw [h]
theorem blk116 {m : Nat} {A j : Nat} {x : Int} {y : Nat} (hx : x = (y : Int)) (hj : j < 7) (hy : y < 2 ^ 32) : some (Blk.cells ((limbs A).set j (.int .u64 x)) m true) = some (.cells (limbs (put A j y)) m true) := by
  subst hx
  exact congrArg (fun c => some (Blk.cells c m true)) (limbs_put hj hy)
def pt (m : Nat) : Value := .pointer (some ⟨m, 0, none⟩)


theorem p84 (v m more : Nat) (hv : v < 2 ^ 224) (hm : m < 2 ^ 64) (hmore : more < 2 ^ 64) : Pure 84 [q7 v, u64 m, u64 more] (q7 ((v * m + more) % 2 ^ 224)) := by
  refine pure_of Try.func84 rfl Try.ntmps84 (by kernel_rfl) rfl (by simp) rfl ?_
  refine vc_seq ?_
  refine vc_go (by kernel_rfl) fun K hK => hK _ _ _ ?_
  clear hK K
  refine vc_seq ?_
  refine vc_go (by kernel_rfl) fun K hK => hK _ _ _ ?_
  clear hK K
  refine vc_seq ?_
  refine vc_seq ?_
  refine vc_go (by kernel_rfl) fun K hK => hK _ _ _ ?_
  clear hK K
  refine refocus [(1, u64 m), (2, u64 more), (3, pt 0), (6, pt 1), (7, pt 2), (20, .agg #[u64 (m % 2 ^ 32), u64 (m / 2 ^ 32)]), (21, .int .i64 0)] [(0, .cells (limbs v) 116 true), (1, .cells (limbs 0) 116 true), (2, .cells (limbs 0) 116 true)] 3 ⟨rfl, rfl, rfl, rfl, rfl, agg2 (and_low m hm) (shr32 m), rfl, trivial⟩ ⟨rfl, rfl, rfl, trivial⟩ rfl fun t h => ?_
  refine vc_block ?_
  refine vc_rounds 3 ?_
  refine vc_seq ?_
  refine vc_go (by kernel_rfl) fun K hK => hK _ _ _ ?_
  clear hK K
  refine vc_seq ?_
  refine vc_cond (t := true) rfl (fun _ => ?_) (fun h => by cases h)
  refine vc_skip ?_
  refine vc_seq ?_
  refine vc_block ?_
  refine vc_seq ?_
  refine vc_go (by kernel_rfl) fun K hK => hK _ _ _ ?_
  clear hK K
  refine vc_seq ?_
  refine vc_go (by kernel_rfl) fun K hK => hK _ _ _ ?_
  clear hK K
  refine vc_seq ?_
  refine vc_go (by kernel_rfl) fun K hK => hK _ _ _ ?_
  clear hK K
  refine vc_block ?_
  refine vc_loop (fun n s => ∃ k c A : Nat, n = 7 - k ∧ k + 0 ≤ 7 ∧ c < 2 ^ 32 ∧ A < 2 ^ 224 ∧ A + c * 2 ^ (32 * (k + 0)) = 0 + (m % 2 ^ 32) * 2 ^ (32 * 0) * (v % 2 ^ (32 * k)) ∧ IsSt [(1, u64 m), (2, u64 more), (3, pt 0), (6, pt 1), (7, pt 2), (8, .int .i64 0), (9, u64 (m % 2 ^ 32)), (10, u64 c), (11, .int .i64 (k : Nat)), (20, .agg #[u64 (m % 2 ^ 32), u64 (m / 2 ^ 32)]), (21, .int .i64 0)] [(0, .cells (limbs v) 116 true), (1, .cells (limbs 0) 116 true), (2, .cells (limbs A) 116 true)] 3 s) 7 ?_ ?_
  · exact ⟨0, 0, 0, rfl, by decide, by decide, by omega, by simp [Nat.mod_one], isSt ⟨rfl, rfl, rfl, rfl, rfl, rfl, rfl, rfl, rfl, rfl, rfl, trivial⟩ ⟨rfl, rfl, rfl, trivial⟩ rfl⟩
  · rintro n s ⟨k, c, A, hn, hk, hc, hA, hinv, t, h, rfl⟩
    have hw : IntKind.i64.wrap ((k : Int) + 0) = ((k + 0 : Nat) : Int) := by rw [wrapI (by omega) (by omega)]; omega
    have hf : (m % 2 ^ 32) < 2 ^ 32 := by omega
    refine vc_seq ?_
    refine vc_seq ?_
    refine vc_go (by kernel_rfl) fun K hK => hK _ _ _ ?_
    clear hK K
    refine vc_cond rfl (fun c1 => ?_) (fun c1 => ?_)
    · -- cond 1 t28 true
      refine vc_skip ?_
      refine vc_seq ?_
      refine vc_block ?_
      refine vc_seq ?_
      have hlt : k + 0 < 7 := by
        rw [hw] at c1
        simp only [decide_eq_true_eq] at c1
        omega
      have hT : (c + (lb A (k + 0) + lb v k * (m % 2 ^ 32))) < 2 ^ 64 := times_lt hc (lb_lt _ _) (lb_lt _ _) hf
      have hT1 : (c + (lb A (k + 0) + lb v k * (m % 2 ^ 32))) % 2 ^ 32 < 2 ^ 32 := Nat.mod_lt _ (by decide)
      have hT2 : (c + (lb A (k + 0) + lb v k * (m % 2 ^ 32))) / 2 ^ 32 < 2 ^ 32 := by omega
      refine vc_regD [] (by kernel_rfl) (by kernel_rfl) fun K hK => ?_
      refine runD_n (z := false) 4 (fun K' hK' => hK' _ _ _ _ ?_) (by decide)
      clear hK' K'
      refine runD_op (vex_ixa (j := k + 0) rfl rfl hw hlt rfl rfl) rfl ?_
      refine runD_rd (vex_ld1 (k' := k + 0) rfl (Nat.zero_add _ |>.trans (Nat.mul_one _)) rfl rfl (limbs_get A hlt)) rfl rfl ?_
      refine runD_n (z := false) 1 (fun K' hK' => hK' _ _ _ _ ?_) (by decide)
      clear hK' K'
      refine runD_op (vex_ixa (j := k) rfl rfl rfl (by omega) rfl rfl) rfl ?_
      refine runD_rd (vex_ld1 (k' := k) rfl (Nat.zero_add _ |>.trans (Nat.mul_one _)) rfl rfl (limbs_get v (by omega))) rfl rfl ?_
      refine runD_end (z := false) fun K' hK' => hK' _ _ _ _ (hK _ _ _ ?_)
      clear hK' K' hK K
      refine refocus [(1, u64 m), (2, u64 more), (3, pt 0), (6, pt 1), (7, pt 2), (8, .int .i64 0), (9, u64 (m % 2 ^ 32)), (10, u64 (c + (lb A (k + 0) + lb v k * (m % 2 ^ 32)))), (11, .int .i64 (k : Nat)), (20, .agg #[u64 (m % 2 ^ 32), u64 (m / 2 ^ 32)]), (21, .int .i64 0)] [(0, .cells (limbs v) 116 true), (1, .cells (limbs 0) 116 true), (2, .cells (limbs A) 116 true)] 3 ⟨rfl, rfl, rfl, rfl, rfl, rfl, rfl, iu (times_raw hc (lb_lt _ _) (lb_lt _ _) hf), rfl, rfl, rfl, trivial⟩ ⟨rfl, rfl, rfl, trivial⟩ rfl fun t h => ?_
      refine vc_seq ?_
      refine vc_reg (by kernel_rfl) fun K hK => ?_
      refine run_n (z := false) 5 (fun K' hK' => hK' _ _ _ ?_) (by decide)
      clear hK' K'
      refine run_op (vex_ixa (j := k + 0) rfl rfl hw hlt rfl rfl) rfl ?_
      refine run_set (vex_st1 (k' := k + 0) rfl (Nat.zero_add _ |>.trans (Nat.mul_one _)) rfl rfl rfl rfl rfl (by intro a h; cases h) hlt) rfl (by decide) rfl ?_
      refine run_end (z := false) fun K' hK' => hK' _ _ _ (hK _ _ _ ?_)
      clear hK' K' hK K
      refine vc_go (by kernel_rfl) fun K hK => hK _ _ _ ?_
      clear hK K
      refine vc_go (by kernel_rfl) fun K hK => hK _ _ _ ?_
      clear hK K
      exact ⟨7 - (k + 1), by omega, k + 1, _, _, rfl, by omega, hT2, put_lt hlt hT1 hA, times_step hinv, isSt ⟨rfl, rfl, rfl, rfl, rfl, rfl, rfl, iu (shr32 _), ii (wrapI (by omega) (by omega)), rfl, rfl, trivial⟩ ⟨rfl, rfl, blk116 (and_low _ hT) hlt hT1, trivial⟩ rfl⟩
    · -- cond 1 t28 false
      refine vc_exit ?_
      obtain ⟨A0, e0⟩ : ∃ x, x = A := ⟨_, rfl⟩
      have hA0 : A0 < 2 ^ 224 := e0 ▸ hA
      have hk7 : k = 7 := by
        rw [hw] at c1
        simp only [decide_eq_false_iff_not] at c1
        omega
      have E0 := pass_end0 hinv hk7 hA hv
      rw [← e0] at E0 ⊢
      clear hinv hk7 hc hA
      refine refocus [(1, u64 m), (2, u64 more), (3, pt 0), (6, pt 1), (7, pt 2), (20, .agg #[u64 (m % 2 ^ 32), u64 (m / 2 ^ 32)]), (21, .int .i64 0)] [(0, .cells (limbs v) 116 true), (1, .cells (limbs 0) 116 true), (2, .cells (limbs A0) 116 true)] 3 ⟨rfl, rfl, rfl, rfl, rfl, rfl, rfl, trivial⟩ ⟨rfl, rfl, rfl, trivial⟩ rfl fun t h => ?_
      refine vc_go (by kernel_rfl) fun K hK => hK _ _ _ ?_
      clear hK K
      refine vc_seq ?_
      refine vc_go (by kernel_rfl) fun K hK => hK _ _ _ ?_
      clear hK K
      refine vc_seq ?_
      refine vc_cond (t := true) rfl (fun _ => ?_) (fun h => by cases h)
      refine vc_skip ?_
      refine vc_seq ?_
      refine vc_block ?_
      refine vc_seq ?_
      refine vc_go (by kernel_rfl) fun K hK => hK _ _ _ ?_
      clear hK K
      refine vc_seq ?_
      refine vc_go (by kernel_rfl) fun K hK => hK _ _ _ ?_
      clear hK K
      refine vc_seq ?_
      refine vc_go (by kernel_rfl) fun K hK => hK _ _ _ ?_
      clear hK K
      refine vc_block ?_
      refine vc_loop (fun n s => ∃ k c A : Nat, n = 7 - k ∧ k + 1 ≤ 7 ∧ c < 2 ^ 32 ∧ A < 2 ^ 224 ∧ A + c * 2 ^ (32 * (k + 1)) = A0 + (m / 2 ^ 32) * 2 ^ (32 * 1) * (v % 2 ^ (32 * k)) ∧ IsSt [(1, u64 m), (2, u64 more), (3, pt 0), (6, pt 1), (7, pt 2), (8, .int .i64 1), (9, u64 (m / 2 ^ 32)), (10, u64 c), (11, .int .i64 (k : Nat)), (20, .agg #[u64 (m % 2 ^ 32), u64 (m / 2 ^ 32)]), (21, .int .i64 1)] [(0, .cells (limbs v) 116 true), (1, .cells (limbs 0) 116 true), (2, .cells (limbs A) 116 true)] 3 s) 7 ?_ ?_
      · exact ⟨0, 0, A0, rfl, by decide, by decide, by omega, by simp [Nat.mod_one], isSt ⟨rfl, rfl, rfl, rfl, rfl, rfl, rfl, rfl, rfl, rfl, rfl, trivial⟩ ⟨rfl, rfl, rfl, trivial⟩ rfl⟩
      · rintro n s ⟨k, c, A, hn, hk, hc, hA, hinv, t, h, rfl⟩
        have hw : IntKind.i64.wrap ((k : Int) + 1) = ((k + 1 : Nat) : Int) := by rw [wrapI (by omega) (by omega)]; omega
        have hf : (m / 2 ^ 32) < 2 ^ 32 := by omega
        refine vc_seq ?_
        refine vc_seq ?_
        refine vc_go (by kernel_rfl) fun K hK => hK _ _ _ ?_
        clear hK K
        refine vc_cond rfl (fun c3 => ?_) (fun c3 => ?_)
        · -- cond 3 t28 true
          refine vc_skip ?_
          refine vc_seq ?_
          refine vc_block ?_
          refine vc_seq ?_
          have hlt : k + 1 < 7 := by
            rw [hw] at c3
            simp only [decide_eq_true_eq] at c3
            omega
          have hT : (c + (lb A (k + 1) + lb v k * (m / 2 ^ 32))) < 2 ^ 64 := times_lt hc (lb_lt _ _) (lb_lt _ _) hf
          have hT1 : (c + (lb A (k + 1) + lb v k * (m / 2 ^ 32))) % 2 ^ 32 < 2 ^ 32 := Nat.mod_lt _ (by decide)
          have hT2 : (c + (lb A (k + 1) + lb v k * (m / 2 ^ 32))) / 2 ^ 32 < 2 ^ 32 := by omega
          refine vc_regD [] (by kernel_rfl) (by kernel_rfl) fun K hK => ?_
          refine runD_n (z := false) 4 (fun K' hK' => hK' _ _ _ _ ?_) (by decide)
          clear hK' K'
          refine runD_op (vex_ixa (j := k + 1) rfl rfl hw hlt rfl rfl) rfl ?_
          refine runD_rd (vex_ld1 (k' := k + 1) rfl (Nat.zero_add _ |>.trans (Nat.mul_one _)) rfl rfl (limbs_get A hlt)) rfl rfl ?_
          refine runD_n (z := false) 1 (fun K' hK' => hK' _ _ _ _ ?_) (by decide)
          clear hK' K'
          refine runD_op (vex_ixa (j := k) rfl rfl rfl (by omega) rfl rfl) rfl ?_
          refine runD_rd (vex_ld1 (k' := k) rfl (Nat.zero_add _ |>.trans (Nat.mul_one _)) rfl rfl (limbs_get v (by omega))) rfl rfl ?_
          refine runD_end (z := false) fun K' hK' => hK' _ _ _ _ (hK _ _ _ ?_)
          clear hK' K' hK K
          refine refocus [(1, u64 m), (2, u64 more), (3, pt 0), (6, pt 1), (7, pt 2), (8, .int .i64 1), (9, u64 (m / 2 ^ 32)), (10, u64 (c + (lb A (k + 1) + lb v k * (m / 2 ^ 32)))), (11, .int .i64 (k : Nat)), (20, .agg #[u64 (m % 2 ^ 32), u64 (m / 2 ^ 32)]), (21, .int .i64 1)] [(0, .cells (limbs v) 116 true), (1, .cells (limbs 0) 116 true), (2, .cells (limbs A) 116 true)] 3 ⟨rfl, rfl, rfl, rfl, rfl, rfl, rfl, iu (times_raw hc (lb_lt _ _) (lb_lt _ _) hf), rfl, rfl, rfl, trivial⟩ ⟨rfl, rfl, rfl, trivial⟩ rfl fun t h => ?_
          refine vc_seq ?_
          refine vc_reg (by kernel_rfl) fun K hK => ?_
          refine run_n (z := false) 5 (fun K' hK' => hK' _ _ _ ?_) (by decide)
          clear hK' K'
          refine run_op (vex_ixa (j := k + 1) rfl rfl hw hlt rfl rfl) rfl ?_
          refine run_set (vex_st1 (k' := k + 1) rfl (Nat.zero_add _ |>.trans (Nat.mul_one _)) rfl rfl rfl rfl rfl (by intro a h; cases h) hlt) rfl (by decide) rfl ?_
          refine run_end (z := false) fun K' hK' => hK' _ _ _ (hK _ _ _ ?_)
          clear hK' K' hK K
          refine vc_go (by kernel_rfl) fun K hK => hK _ _ _ ?_
          clear hK K
          refine vc_go (by kernel_rfl) fun K hK => hK _ _ _ ?_
          clear hK K
          exact ⟨7 - (k + 1), by omega, k + 1, _, _, rfl, by omega, hT2, put_lt hlt hT1 hA, times_step hinv, isSt ⟨rfl, rfl, rfl, rfl, rfl, rfl, rfl, iu (shr32 _), ii (wrapI (by omega) (by omega)), rfl, rfl, trivial⟩ ⟨rfl, rfl, blk116 (and_low _ hT) hlt hT1, trivial⟩ rfl⟩
        · -- cond 3 t28 false
          refine vc_exit ?_
          obtain ⟨A1, e1⟩ : ∃ x, x = A := ⟨_, rfl⟩
          have hA1 : A1 < 2 ^ 224 := e1 ▸ hA
          have hk7 : k = 6 := by
            rw [hw] at c3
            simp only [decide_eq_false_iff_not] at c3
            omega
          have E1 := pass_end1 hinv hk7 hA
          rw [← e1] at E1 ⊢
          clear hinv hk7 hc hA
          refine refocus [(1, u64 m), (2, u64 more), (3, pt 0), (6, pt 1), (7, pt 2), (20, .agg #[u64 (m % 2 ^ 32), u64 (m / 2 ^ 32)]), (21, .int .i64 1)] [(0, .cells (limbs v) 116 true), (1, .cells (limbs 0) 116 true), (2, .cells (limbs A1) 116 true)] 3 ⟨rfl, rfl, rfl, rfl, rfl, rfl, rfl, trivial⟩ ⟨rfl, rfl, rfl, trivial⟩ rfl fun t h => ?_
          refine vc_go (by kernel_rfl) fun K hK => hK _ _ _ ?_
          clear hK K
          refine vc_seq ?_
          refine vc_go (by kernel_rfl) fun K hK => hK _ _ _ ?_
          clear hK K
          refine vc_seq ?_
          refine vc_cond (t := false) rfl (fun h => by cases h) (fun _ => ?_)
          refine vc_exit ?_
          refine vc_seq ?_
          refine vc_seq ?_
          refine vc_go (by kernel_rfl) fun K hK => hK _ _ _ ?_
          clear hK K
          refine refocus [(1, u64 m), (2, u64 more), (3, pt 0), (6, pt 1), (7, pt 2), (57, .agg #[u64 (more % 2 ^ 32), u64 (more / 2 ^ 32)]), (58, .int .i64 0)] [(0, .cells (limbs v) 116 true), (1, .cells (limbs 0) 116 true), (2, .cells (limbs A1) 116 true)] 3 ⟨rfl, rfl, rfl, rfl, rfl, agg2 (and_low more hmore) (shr32 more), rfl, trivial⟩ ⟨rfl, rfl, rfl, trivial⟩ rfl fun t h => ?_
          refine vc_block ?_
          refine vc_rounds 3 ?_
          refine vc_seq ?_
          refine vc_go (by kernel_rfl) fun K hK => hK _ _ _ ?_
          clear hK K
          refine vc_seq ?_
          refine vc_cond (t := true) rfl (fun _ => ?_) (fun h => by cases h)
          refine vc_skip ?_
          refine vc_seq ?_
          refine vc_block ?_
          refine vc_seq ?_
          refine vc_go (by kernel_rfl) fun K hK => hK _ _ _ ?_
          clear hK K
          refine vc_seq ?_
          refine vc_go (by kernel_rfl) fun K hK => hK _ _ _ ?_
          clear hK K
          refine vc_seq ?_
          refine vc_go (by kernel_rfl) fun K hK => hK _ _ _ ?_
          clear hK K
          refine vc_block ?_
          refine vc_loop (fun n s => ∃ k c A : Nat, n = 7 - k ∧ k ≤ 7 ∧ c < 2 ^ 32 ∧ A < 2 ^ 224 ∧ A + c * 2 ^ (32 * k) = A1 + (more % 2 ^ 32) * 2 ^ (32 * 0) ∧ IsSt [(1, u64 m), (2, u64 more), (3, pt 0), (6, pt 1), (7, pt 2), (12, .int .i64 0), (14, u64 c), (15, .int .i64 (k : Nat)), (57, .agg #[u64 (more % 2 ^ 32), u64 (more / 2 ^ 32)]), (58, .int .i64 0)] [(0, .cells (limbs v) 116 true), (1, .cells (limbs 0) 116 true), (2, .cells (limbs A) 116 true)] 3 s) 7 ?_ ?_
          · exact ⟨0, (more % 2 ^ 32), A1, rfl, by decide, by omega, by omega, rfl, isSt ⟨rfl, rfl, rfl, rfl, rfl, rfl, rfl, rfl, rfl, rfl, trivial⟩ ⟨rfl, rfl, rfl, trivial⟩ rfl⟩
          · rintro n s ⟨k, c, A, hn, hk, hc, hA, hinv, t, h, rfl⟩
            refine vc_seq ?_
            refine vc_seq ?_
            refine vc_go (by kernel_rfl) fun K hK => hK _ _ _ ?_
            clear hK K
            refine vc_cond rfl (fun c6 => ?_) (fun c6 => ?_)
            · -- cond 6 t65 true
              refine vc_skip ?_
              refine vc_seq ?_
              refine vc_block ?_
              refine vc_seq ?_
              have hlt : k < 7 := by
                simp only [decide_eq_true_eq] at c6
                omega
              have hx := lb_lt A k
              have hT : (c + (lb A k + 0)) < 2 ^ 64 := by omega
              have hT1 : (c + (lb A k + 0)) % 2 ^ 32 < 2 ^ 32 := Nat.mod_lt _ (by decide)
              have hT2 : (c + (lb A k + 0)) / 2 ^ 32 < 2 ^ 32 := by omega
              refine vc_reg (by kernel_rfl) fun K hK => ?_
              refine run_n (z := false) 2 (fun K' hK' => hK' _ _ _ ?_) (by decide)
              clear hK' K'
              refine run_op (vex_ixa (j := k) rfl rfl rfl hlt rfl rfl) rfl ?_
              refine run_rd (vex_ld1 (k' := k) rfl (Nat.zero_add _ |>.trans (Nat.mul_one _)) rfl rfl (limbs_get A hlt)) rfl ?_
              refine run_end (z := false) fun K' hK' => hK' _ _ _ (hK _ _ _ ?_)
              clear hK' K' hK K
              refine refocus [(1, u64 m), (2, u64 more), (3, pt 0), (6, pt 1), (7, pt 2), (12, .int .i64 0), (14, u64 (c + (lb A k + 0))), (15, .int .i64 (k : Nat)), (57, .agg #[u64 (more % 2 ^ 32), u64 (more / 2 ^ 32)]), (58, .int .i64 0)] [(0, .cells (limbs v) 116 true), (1, .cells (limbs 0) 116 true), (2, .cells (limbs A) 116 true)] 3 ⟨rfl, rfl, rfl, rfl, rfl, rfl, iu (by rw [wrap64]; omega), rfl, rfl, rfl, trivial⟩ ⟨rfl, rfl, rfl, trivial⟩ rfl fun t h => ?_
              refine vc_seq ?_
              refine vc_reg (by kernel_rfl) fun K hK => ?_
              refine run_n (z := false) 3 (fun K' hK' => hK' _ _ _ ?_) (by decide)
              clear hK' K'
              refine run_op (vex_ixa (j := k) rfl rfl rfl hlt rfl rfl) rfl ?_
              refine run_set (vex_st1 (k' := k) rfl (Nat.zero_add _ |>.trans (Nat.mul_one _)) rfl rfl rfl rfl rfl (by intro a h; cases h) hlt) rfl (by decide) rfl ?_
              refine run_end (z := false) fun K' hK' => hK' _ _ _ (hK _ _ _ ?_)
              clear hK' K' hK K
              refine vc_go (by kernel_rfl) fun K hK => hK _ _ _ ?_
              clear hK K
              refine vc_go (by kernel_rfl) fun K hK => hK _ _ _ ?_
              clear hK K
              exact ⟨7 - (k + 1), by omega, k + 1, _, _, rfl, by omega, hT2, put_lt hlt hT1 hA, plus_step hinv, isSt ⟨rfl, rfl, rfl, rfl, rfl, rfl, iu (shr32 _), ii (wrapI (by omega) (by omega)), rfl, rfl, trivial⟩ ⟨rfl, rfl, blk116 (and_low _ hT) hlt hT1, trivial⟩ rfl⟩
            · -- cond 6 t65 false
              refine vc_exit ?_
              obtain ⟨A2, e2⟩ : ∃ x, x = A := ⟨_, rfl⟩
              have hA2 : A2 < 2 ^ 224 := e2 ▸ hA
              have hk7 : k = 7 := by
                simp only [decide_eq_false_iff_not] at c6
                omega
              subst hk7
              have E2 := plus_end hinv hA
              rw [← e2] at E2 ⊢
              clear hinv hc hA
              refine refocus [(1, u64 m), (2, u64 more), (3, pt 0), (6, pt 1), (7, pt 2), (57, .agg #[u64 (more % 2 ^ 32), u64 (more / 2 ^ 32)]), (58, .int .i64 0)] [(0, .cells (limbs v) 116 true), (1, .cells (limbs 0) 116 true), (2, .cells (limbs A2) 116 true)] 3 ⟨rfl, rfl, rfl, rfl, rfl, rfl, rfl, trivial⟩ ⟨rfl, rfl, rfl, trivial⟩ rfl fun t h => ?_
              refine vc_go (by kernel_rfl) fun K hK => hK _ _ _ ?_
              clear hK K
              refine vc_seq ?_
              refine vc_go (by kernel_rfl) fun K hK => hK _ _ _ ?_
              clear hK K
              refine vc_seq ?_
              refine vc_cond (t := true) rfl (fun _ => ?_) (fun h => by cases h)
              refine vc_skip ?_
              refine vc_seq ?_
              refine vc_block ?_
              refine vc_seq ?_
              refine vc_go (by kernel_rfl) fun K hK => hK _ _ _ ?_
              clear hK K
              refine vc_seq ?_
              refine vc_go (by kernel_rfl) fun K hK => hK _ _ _ ?_
              clear hK K
              refine vc_seq ?_
              refine vc_go (by kernel_rfl) fun K hK => hK _ _ _ ?_
              clear hK K
              refine vc_block ?_
              refine vc_loop (fun n s => ∃ k c A : Nat, n = 7 - k ∧ k ≤ 7 ∧ c < 2 ^ 32 ∧ A < 2 ^ 224 ∧ A + c * 2 ^ (32 * k) = A2 + (more / 2 ^ 32) * 2 ^ (32 * 1) ∧ IsSt [(1, u64 m), (2, u64 more), (3, pt 0), (6, pt 1), (7, pt 2), (12, .int .i64 1), (14, u64 c), (15, .int .i64 (k : Nat)), (57, .agg #[u64 (more % 2 ^ 32), u64 (more / 2 ^ 32)]), (58, .int .i64 1)] [(0, .cells (limbs v) 116 true), (1, .cells (limbs 0) 116 true), (2, .cells (limbs A) 116 true)] 3 s) 6 ?_ ?_
              · exact ⟨1, (more / 2 ^ 32), A2, rfl, by decide, by omega, by omega, rfl, isSt ⟨rfl, rfl, rfl, rfl, rfl, rfl, rfl, rfl, rfl, rfl, trivial⟩ ⟨rfl, rfl, rfl, trivial⟩ rfl⟩
              · rintro n s ⟨k, c, A, hn, hk, hc, hA, hinv, t, h, rfl⟩
                refine vc_seq ?_
                refine vc_seq ?_
                refine vc_go (by kernel_rfl) fun K hK => hK _ _ _ ?_
                clear hK K
                refine vc_cond rfl (fun c8 => ?_) (fun c8 => ?_)
                · -- cond 8 t65 true
                  refine vc_skip ?_
                  refine vc_seq ?_
                  refine vc_block ?_
                  refine vc_seq ?_
                  have hlt : k < 7 := by
                    simp only [decide_eq_true_eq] at c8
                    omega
                  have hx := lb_lt A k
                  have hT : (c + (lb A k + 0)) < 2 ^ 64 := by omega
                  have hT1 : (c + (lb A k + 0)) % 2 ^ 32 < 2 ^ 32 := Nat.mod_lt _ (by decide)
                  have hT2 : (c + (lb A k + 0)) / 2 ^ 32 < 2 ^ 32 := by omega
                  refine vc_reg (by kernel_rfl) fun K hK => ?_
                  refine run_n (z := false) 2 (fun K' hK' => hK' _ _ _ ?_) (by decide)
                  clear hK' K'
                  refine run_op (vex_ixa (j := k) rfl rfl rfl hlt rfl rfl) rfl ?_
                  refine run_rd (vex_ld1 (k' := k) rfl (Nat.zero_add _ |>.trans (Nat.mul_one _)) rfl rfl (limbs_get A hlt)) rfl ?_
                  refine run_end (z := false) fun K' hK' => hK' _ _ _ (hK _ _ _ ?_)
                  clear hK' K' hK K
                  refine refocus [(1, u64 m), (2, u64 more), (3, pt 0), (6, pt 1), (7, pt 2), (12, .int .i64 1), (14, u64 (c + (lb A k + 0))), (15, .int .i64 (k : Nat)), (57, .agg #[u64 (more % 2 ^ 32), u64 (more / 2 ^ 32)]), (58, .int .i64 1)] [(0, .cells (limbs v) 116 true), (1, .cells (limbs 0) 116 true), (2, .cells (limbs A) 116 true)] 3 ⟨rfl, rfl, rfl, rfl, rfl, rfl, iu (by rw [wrap64]; omega), rfl, rfl, rfl, trivial⟩ ⟨rfl, rfl, rfl, trivial⟩ rfl fun t h => ?_
                  refine vc_seq ?_
                  refine vc_reg (by kernel_rfl) fun K hK => ?_
                  refine run_n (z := false) 3 (fun K' hK' => hK' _ _ _ ?_) (by decide)
                  clear hK' K'
                  refine run_op (vex_ixa (j := k) rfl rfl rfl hlt rfl rfl) rfl ?_
                  refine run_set (vex_st1 (k' := k) rfl (Nat.zero_add _ |>.trans (Nat.mul_one _)) rfl rfl rfl rfl rfl (by intro a h; cases h) hlt) rfl (by decide) rfl ?_
                  refine run_end (z := false) fun K' hK' => hK' _ _ _ (hK _ _ _ ?_)
                  clear hK' K' hK K
                  refine vc_go (by kernel_rfl) fun K hK => hK _ _ _ ?_
                  clear hK K
                  refine vc_go (by kernel_rfl) fun K hK => hK _ _ _ ?_
                  clear hK K
                  exact ⟨7 - (k + 1), by omega, k + 1, _, _, rfl, by omega, hT2, put_lt hlt hT1 hA, plus_step hinv, isSt ⟨rfl, rfl, rfl, rfl, rfl, rfl, iu (shr32 _), ii (wrapI (by omega) (by omega)), rfl, rfl, trivial⟩ ⟨rfl, rfl, blk116 (and_low _ hT) hlt hT1, trivial⟩ rfl⟩
                · -- cond 8 t65 false
                  refine vc_exit ?_
                  obtain ⟨A3, e3⟩ : ∃ x, x = A := ⟨_, rfl⟩
                  have hA3 : A3 < 2 ^ 224 := e3 ▸ hA
                  have hk7 : k = 7 := by
                    simp only [decide_eq_false_iff_not] at c8
                    omega
                  subst hk7
                  have E3 := plus_end hinv hA
                  rw [← e3] at E3 ⊢
                  clear hinv hc hA
                  refine refocus [(1, u64 m), (2, u64 more), (3, pt 0), (6, pt 1), (7, pt 2), (57, .agg #[u64 (more % 2 ^ 32), u64 (more / 2 ^ 32)]), (58, .int .i64 1)] [(0, .cells (limbs v) 116 true), (1, .cells (limbs 0) 116 true), (2, .cells (limbs A3) 116 true)] 3 ⟨rfl, rfl, rfl, rfl, rfl, rfl, rfl, trivial⟩ ⟨rfl, rfl, rfl, trivial⟩ rfl fun t h => ?_
                  refine vc_go (by kernel_rfl) fun K hK => hK _ _ _ ?_
                  clear hK K
                  refine vc_seq ?_
                  refine vc_go (by kernel_rfl) fun K hK => hK _ _ _ ?_
                  clear hK K
                  refine vc_seq ?_
                  refine vc_cond (t := false) rfl (fun h => by cases h) (fun _ => ?_)
                  refine vc_exit ?_
                  refine vc_seq ?_
                  refine vc_go (by kernel_rfl) fun K hK => hK _ _ _ ?_
                  clear hK K
                  refine vc_ret ⟨.inr rfl, ?_⟩
                  rw [← times_all E0 E1 E2 E3]
                  rfl
end Go.Proofs.Ytdfkcijholopoaa.Vm
