/- The reference's products and quotients of bits, walked. -/
import Derived.Test.YtdfkcijholopoaaBd
namespace Go.Proofs.Ytdfkcijholopoaa.Vm
open Go Go.RowKit
set_option maxRecDepth 10000
set_option linter.unusedSimpArgs false
set_option linter.unusedVariables false

theorem bkb {v w m : Nat} (h : v = w) : some (Blk.cells (bl fun k => v.testBit k) m true) = some (.cells (bl fun k => w.testBit k) m true) := by rw [h]
theorem bkz {m : Nat} : some (Blk.cells bits0 m true) = some (.cells (bl fun k => (0 : Nat).testBit k) m true) := blk0 fun k _ => Nat.zero_testBit k
theorem prod_one {a m i : Nat} (h : m.testBit i = true) : (2 * (a * (m / 2 ^ (i + 1)) % 2 ^ 256) % 2 ^ 256 + a) % 2 ^ 256 = a * (m / 2 ^ i) % 2 ^ 256 := by
  have e : a * (m / 2 ^ i) = 2 * (a * (m / 2 ^ (i + 1))) + a := by
    rw [half, h, Nat.mul_add, Nat.mul_left_comm, Bool.toNat_true, Nat.mul_one]
  rw [e]
  generalize a * (m / 2 ^ (i + 1)) = z
  omega
theorem prod_nil {a m i : Nat} (h : m.testBit i = false) : 2 * (a * (m / 2 ^ (i + 1)) % 2 ^ 256) % 2 ^ 256 = a * (m / 2 ^ i) % 2 ^ 256 := by
  have e : a * (m / 2 ^ i) = 2 * (a * (m / 2 ^ (i + 1))) := by
    rw [half, h, Nat.mul_add, Nat.mul_left_comm]
    rfl
  rw [e]
  generalize a * (m / 2 ^ (i + 1)) = z
  omega
theorem bp_bit (v i : Nat) : (v.testBit i).toNat = bp v i := by
  rw [tb, bp]
  have h : v / 2 ^ i % 2 = 0 ∨ v / 2 ^ i % 2 = 1 := by omega
  rcases h with h | h <;> rw [h] <;> rfl
theorem low_bit {R k : Nat} (b : Bool) (hR : 2 * R < 2 ^ 256) (_ : k < 256) : (if k = 0 then b else (2 * R % 2 ^ 256).testBit k) = (2 * R + b.toNat).testBit k := by
  rw [Nat.mod_eq_of_lt hR]
  cases k with
  | zero =>
    rw [if_pos rfl, tb, Nat.pow_zero, Nat.div_one]
    cases b
    · rw [eq_comm, decide_eq_false_iff_not]; simp only [Bool.toNat_false]; omega
    · rw [eq_comm, decide_eq_true_eq]; simp only [Bool.toNat_true]; omega
  | succ k =>
    rw [if_neg (by omega), Nat.testBit_succ, Nat.testBit_succ]
    congr 1
    cases b <;> simp only [Bool.toNat_false, Bool.toNat_true] <;> omega
theorem top_bit {a d i k : Nat} (_ : k < 256) : (if k = i then true else (qp a d (i + 1)).testBit k) = (qp a d (i + 1) + 2 ^ i).testBit k := by
  unfold qp
  rw [Nat.mul_comm, Nat.two_pow_add_eq_or_of_lt (Nat.pow_lt_pow_right (by decide) (by omega)), Nat.testBit_or]
  by_cases h : k = i
  · subst h; rw [if_pos rfl, Nat.testBit_two_pow_self, Bool.or_true]
  · rw [if_neg h, Nat.testBit_two_pow_of_ne (fun e => h e.symm), Bool.or_false]
theorem vresult_two {s : St} {r r' : ResultVar} {v v' : Value} (h : vres s r = some v) (h' : vres s r' = some v') : vresult s [r, r'] = some (.tuple #[v, v']) := by
  simp only [vresult, vresL, h, h']
  rfl
theorem plain_q {q r : Nat} : plain (.tuple #[b8 q, b8 r]) = true := by simp [plain, plainA, plainL, plain_b8]


theorem p31 {a m : Nat} (hm : m < 2 ^ 64) : Pure 31 [b8 a, u64 m] (b8 (a * m % 2 ^ 256)) := by
  refine pure_of Try.func31 rfl Try.ntmps31 (by kernel_rfl) (by simp [plainL, plain_b8, u64, plain]) (by simp) (plain_b8 _) ?_
  refine vc_seq ?_
  refine vc_go (by kernel_rfl) fun K hK => hK _ _ _ ?_
  clear hK K
  refine vc_seq ?_
  refine vc_go (by kernel_rfl) fun K hK => hK _ _ _ ?_
  clear hK K
  refine vc_seq ?_
  refine vc_seq ?_
  refine vc_go (by kernel_rfl) fun K hK => hK _ _ _ ?_
  clear hK K
  refine vc_block ?_
  refine vc_loop (fun n s => ∃ k0 : Nat, n = k0 ∧ k0 ≤ 64 ∧ IsSt [(1, u64 m), (2, pt 0), (4, pt 1), (5, pt 2), (6, .int .i64 ((k0 : Int) - 1))] [(0, .cells (bl (fun k => (a).testBit k)) 32 true), (1, .cells bits0 32 true), (2, .cells (bl (fun k => (a * (m / 2 ^ k0) % 2 ^ 256).testBit k)) 32 true)] 3 s) 64 ?_ ?_
  · exact ⟨64, rfl, by decide, isSt ⟨rfl, rfl, rfl, rfl, rfl, trivial⟩ ⟨rfl, rfl, bkz.trans (bkb (by rw [Nat.div_eq_of_lt hm, Nat.mul_zero, Nat.zero_mod])), trivial⟩ rfl⟩
  · rintro n s ⟨k0, hn, ha0, t, h, rfl⟩
    refine vc_seq ?_
    refine vc_seq ?_
    refine vc_go (by kernel_rfl) fun K hK => hK _ _ _ ?_
    clear hK K
    refine vc_cond rfl (fun c0 => ?_) (fun c0 => ?_)
    · -- cond 0 t8 true
      refine vc_skip ?_
      refine vc_seq ?_
      refine vc_block ?_
      refine vc_seq ?_
      have h0 : 0 < k0 := by
        simp only [decide_eq_true_eq] at c0
        omega
      obtain ⟨i, rfl⟩ : ∃ i, k0 = i + 1 := ⟨k0 - 1, by omega⟩
      refine refocus [(1, u64 m), (2, pt 0), (4, pt 1), (5, pt 2), (6, .int .i64 ((i : Nat)))] [(0, .cells (bl (fun k => (a).testBit k)) 32 true), (1, .cells bits0 32 true), (2, .cells (bl (fun k => (a * (m / 2 ^ (i + 1)) % 2 ^ 256).testBit k)) 32 true)] 3 ⟨rfl, rfl, rfl, rfl, ii (by omega), trivial⟩ ⟨rfl, rfl, rfl, trivial⟩ rfl fun t h => ?_
      have hw : IntKind.u64.wrap ((i : Nat) : Int) = ((i : Nat) : Int) := wrapN (by omega)
      have h64 : i ≤ IntKind.u64.bits := Nat.le_trans (show i ≤ 63 by omega) (by decide)
      refine vc_reg (by kernel_rfl) fun K hK => ?_
      refine run_rd (vex_ld32 rfl rfl) rfl ?_
      refine run_call (p81 (a * (m / 2 ^ (i + 1)) % 2 ^ 256)) rfl rfl rfl rfl ?_
      refine run_set (vex_st32 rfl rfl (bl_length _) rfl) rfl (by decide) rfl ?_
      refine run_end (z := false) fun K' hK' => hK' _ _ _ (hK _ _ _ ?_)
      clear hK' K' hK K
      refine vc_seq ?_
      refine vc_reg (by kernel_rfl) fun K hK => ?_
      refine run_n (z := false) 3 (fun K' hK' => hK' _ _ _ ?_) (by decide)
      clear hK' K'
      refine run_op (vex_shr (n := i) rfl rfl hw h64) rfl ?_
      refine run_end (z := false) fun K' hK' => hK' _ _ _ (hK _ _ _ ?_)
      clear hK' K' hK K
      refine vc_cond rfl (fun bm => ?_) (fun bm => ?_)
      · -- cond 1 t18 true
        refine vc_reg (by kernel_rfl) fun K hK => ?_
        refine run_rd (vex_ld32 rfl rfl) rfl ?_
        refine run_rd (vex_ld32 rfl rfl) rfl ?_
        refine run_call (p35 (2 * (a * (m / 2 ^ (i + 1)) % 2 ^ 256) % 2 ^ 256) a) rfl rfl rfl rfl ?_
        refine run_set (vex_st32 rfl rfl (bl_length _) rfl) rfl (by decide) rfl ?_
        refine run_end (z := false) fun K' hK' => hK' _ _ _ (hK _ _ _ ?_)
        clear hK' K' hK K
        refine vc_go (by kernel_rfl) fun K hK => hK _ _ _ ?_
        clear hK K
        exact ⟨i, by omega, i, rfl, by omega, isSt ⟨rfl, rfl, rfl, rfl, ii (wrapI (by omega) (by omega)), trivial⟩ ⟨rfl, rfl, bkb (prod_one ((bit_raw m i).symm.trans bm)), trivial⟩ rfl⟩
      · -- cond 1 t18 false
        refine vc_skip ?_
        refine vc_go (by kernel_rfl) fun K hK => hK _ _ _ ?_
        clear hK K
        exact ⟨i, by omega, i, rfl, by omega, isSt ⟨rfl, rfl, rfl, rfl, ii (wrapI (by omega) (by omega)), trivial⟩ ⟨rfl, rfl, bkb (prod_nil ((bit_raw m i).symm.trans bm)), trivial⟩ rfl⟩
    · -- cond 0 t8 false
      refine vc_exit ?_
      refine vc_seq ?_
      refine vc_reg (by kernel_rfl) fun K hK => ?_
      refine run_rd (vex_ld32 rfl rfl) rfl ?_
      refine run_set (vex_st32 rfl rfl bits0_length rfl) rfl (by decide) rfl ?_
      refine run_end (z := false) fun K' hK' => hK' _ _ _ (hK _ _ _ ?_)
      clear hK' K' hK K
      refine vc_ret ⟨.inr rfl, ?_⟩
      have h0 : k0 = 0 := by
        simp only [decide_eq_false_iff_not] at c0
        omega
      subst h0
      change vresult _ [.cell 4 32] = _
      rw [vresult_one]
      refine Eq.trans (vres_32 (m := 1) (f := fun k => (a * (m / 2 ^ 0) % 2 ^ 256).testBit k) rfl rfl) ?_
      rw [Nat.pow_zero, Nat.div_one]
      rfl

theorem p24 {a d : Nat} (ha : a < 2 ^ 256) (hd : 0 < d) (hd2 : d < 2 ^ 255) : Pure 24 [b8 a, b8 d] (.tuple #[b8 (a / d), b8 (a % d)]) := by
  refine pure_of Try.func24 rfl Try.ntmps24 (by kernel_rfl) (by simp [plainL, plain_b8]) (by simp) plain_q ?_
  refine vc_seq ?_
  refine vc_go (by kernel_rfl) fun K hK => hK _ _ _ ?_
  clear hK K
  refine vc_seq ?_
  refine vc_go (by kernel_rfl) fun K hK => hK _ _ _ ?_
  clear hK K
  refine vc_seq ?_
  refine vc_seq ?_
  refine vc_go (by kernel_rfl) fun K hK => hK _ _ _ ?_
  clear hK K
  refine vc_block ?_
  refine vc_loop (fun n s => ∃ k0 : Nat, n = k0 ∧ k0 ≤ 256 ∧ IsSt [(2, pt 0), (3, pt 1), (4, pt 2), (5, pt 3), (6, pt 4), (7, pt 5), (8, .int .i64 ((k0 : Int) - 1))] [(0, .cells (bl (fun k => (a).testBit k)) 32 true), (1, .cells (bl (fun k => (d).testBit k)) 32 true), (2, .cells bits0 32 true), (3, .cells bits0 32 true), (4, .cells (bl (fun k => (qp a d k0).testBit k)) 32 true), (5, .cells (bl (fun k => (rp a d k0).testBit k)) 32 true)] 6 s) 256 ?_ ?_
  · exact ⟨256, rfl, by decide, isSt ⟨rfl, rfl, rfl, rfl, rfl, rfl, rfl, trivial⟩ ⟨rfl, rfl, rfl, rfl, bkz.trans (bkb (by rw [qp, Nat.div_eq_of_lt ha, Nat.zero_div, Nat.zero_mul])), bkz.trans (bkb (by rw [rp, Nat.div_eq_of_lt ha, Nat.zero_mod])), trivial⟩ rfl⟩
  · rintro n s ⟨k0, hn, ha0, t, h, rfl⟩
    refine vc_seq ?_
    refine vc_seq ?_
    refine vc_go (by kernel_rfl) fun K hK => hK _ _ _ ?_
    clear hK K
    refine vc_cond rfl (fun c0 => ?_) (fun c0 => ?_)
    · -- cond 0 t10 true
      refine vc_skip ?_
      refine vc_seq ?_
      refine vc_block ?_
      refine vc_seq ?_
      have h0 : 0 < k0 := by
        simp only [decide_eq_true_eq] at c0
        omega
      obtain ⟨i, rfl⟩ : ∃ i, k0 = i + 1 := ⟨k0 - 1, by omega⟩
      have hR : rp a d (i + 1) < d := rp_lt hd
      have hB := Bool.toNat_lt (a.testBit i)
      refine refocus [(2, pt 0), (3, pt 1), (4, pt 2), (5, pt 3), (6, pt 4), (7, pt 5), (8, .int .i64 ((i : Nat)))] [(0, .cells (bl (fun k => (a).testBit k)) 32 true), (1, .cells (bl (fun k => (d).testBit k)) 32 true), (2, .cells bits0 32 true), (3, .cells bits0 32 true), (4, .cells (bl (fun k => (qp a d (i + 1)).testBit k)) 32 true), (5, .cells (bl (fun k => (rp a d (i + 1)).testBit k)) 32 true)] 6 ⟨rfl, rfl, rfl, rfl, rfl, rfl, ii (by omega), trivial⟩ ⟨rfl, rfl, rfl, rfl, rfl, rfl, trivial⟩ rfl fun t h => ?_
      refine vc_reg (by kernel_rfl) fun K hK => ?_
      refine run_rd (vex_ld32 rfl rfl) rfl ?_
      refine run_call (p81 (rp a d (i + 1))) rfl rfl rfl rfl ?_
      refine run_set (vex_st32 rfl rfl (bl_length _) rfl) rfl (by decide) rfl ?_
      refine run_end (z := false) fun K' hK' => hK' _ _ _ (hK _ _ _ ?_)
      clear hK' K' hK K
      refine vc_seq ?_
      refine vc_reg (by kernel_rfl) fun K hK => ?_
      refine run_n (z := false) 1 (fun K' hK' => hK' _ _ _ ?_) (by decide)
      clear hK' K'
      refine run_op (vex_ixa (j := i) rfl rfl rfl (show i < 256 by omega) rfl rfl) rfl ?_
      refine run_rd (vex_ld1 (k' := i) rfl (Nat.zero_add _ |>.trans (Nat.mul_one _)) rfl rfl (bl_get _ (by omega))) rfl ?_
      refine run_n (z := false) 1 (fun K' hK' => hK' _ _ _ ?_) (by decide)
      clear hK' K'
      refine run_set (vex_st1 (k' := 0) rfl rfl rfl rfl rfl rfl rfl (by intro a h; cases h) (by rw [bl_length]; decide)) rfl (by decide) rfl ?_
      refine run_end (z := false) fun K' hK' => hK' _ _ _ (hK _ _ _ ?_)
      clear hK' K' hK K
      refine vc_seq ?_
      refine refocus [(2, pt 0), (3, pt 1), (4, pt 2), (5, pt 3), (6, pt 4), (7, pt 5), (8, .int .i64 ((i : Nat)))] [(0, .cells (bl (fun k => (a).testBit k)) 32 true), (1, .cells (bl (fun k => (d).testBit k)) 32 true), (2, .cells bits0 32 true), (3, .cells bits0 32 true), (4, .cells (bl (fun k => (qp a d (i + 1)).testBit k)) 32 true), (5, .cells (bl (fun k => ((2 * rp a d (i + 1) + (a.testBit i).toNat)).testBit k)) 32 true)] 6 ⟨rfl, rfl, rfl, rfl, rfl, rfl, rfl, trivial⟩ ⟨rfl, rfl, rfl, rfl, rfl, blk32 (by decide) (fun k hk => low_bit (a.testBit i) (by omega) hk), trivial⟩ rfl fun t h => ?_
      have hX : (2 * rp a d (i + 1) + (a.testBit i).toNat) < 2 ^ 256 := by omega
      refine vc_reg (by kernel_rfl) fun K hK => ?_
      refine run_rd (vex_ld32 rfl rfl) rfl ?_
      refine run_rd (vex_ld32 rfl rfl) rfl ?_
      refine run_call (p32 hX (Nat.lt_trans hd2 (by decide))) rfl rfl rfl rfl ?_
      refine run_end (z := false) fun K' hK' => hK' _ _ _ (hK _ _ _ ?_)
      clear hK' K' hK K
      refine vc_cond rfl (fun cl => ?_) (fun cl => ?_)
      · -- cond 1 t22 true
        refine vc_seq ?_
        refine vc_reg (by kernel_rfl) fun K hK => ?_
        refine run_rd (vex_ld32 rfl rfl) rfl ?_
        refine run_rd (vex_ld32 rfl rfl) rfl ?_
        refine run_call (p37 (x := (2 * rp a d (i + 1) + (a.testBit i).toNat)) (y := d) (by have hge : ¬ (2 * rp a d (i + 1) + (a.testBit i).toNat) < d := (by simpa using cl); omega)) rfl rfl rfl rfl ?_
        refine run_set (vex_st32 rfl rfl (bl_length _) rfl) rfl (by decide) rfl ?_
        refine run_end (z := false) fun K' hK' => hK' _ _ _ (hK _ _ _ ?_)
        clear hK' K' hK K
        refine vc_reg (by kernel_rfl) fun K hK => ?_
        refine run_n (z := false) 1 (fun K' hK' => hK' _ _ _ ?_) (by decide)
        clear hK' K'
        refine run_op (vex_ixa (j := i) rfl rfl rfl (show i < 256 by omega) rfl rfl) rfl ?_
        refine run_set (vex_st1 (k' := i) rfl (Nat.zero_add _ |>.trans (Nat.mul_one _)) rfl rfl rfl rfl rfl (by intro a h; cases h) (by rw [bl_length]; omega)) rfl (by decide) rfl ?_
        refine run_end (z := false) fun K' hK' => hK' _ _ _ (hK _ _ _ ?_)
        clear hK' K' hK K
        refine vc_go (by kernel_rfl) fun K hK => hK _ _ _ ?_
        clear hK K
        have hge : ¬ (2 * rp a d (i + 1) + (a.testBit i).toNat) < d := by simpa using cl
        rw [bp_bit] at hge
        obtain ⟨ho1, ho2⟩ := over_one (v := a) (d := d) (p := i) hd (by omega)
        exact ⟨i, by omega, i, rfl, by omega, isSt ⟨rfl, rfl, rfl, rfl, rfl, rfl, ii (wrapI (by omega) (by omega)), trivial⟩ ⟨rfl, rfl, rfl, rfl, (blk32 (by omega) (fun k hk => top_bit (a := a) (d := d) (i := i) hk)).trans (bkb ho2.symm), bkb (by rw [ho1, bp_bit]), trivial⟩ rfl⟩
      · -- cond 1 t22 false
        refine vc_skip ?_
        refine vc_go (by kernel_rfl) fun K hK => hK _ _ _ ?_
        clear hK K
        have hge : (2 * rp a d (i + 1) + (a.testBit i).toNat) < d := by simpa using cl
        rw [bp_bit] at hge
        obtain ⟨ho1, ho2⟩ := over_nil (v := a) (d := d) (p := i) hd (by omega)
        exact ⟨i, by omega, i, rfl, by omega, isSt ⟨rfl, rfl, rfl, rfl, rfl, rfl, ii (wrapI (by omega) (by omega)), trivial⟩ ⟨rfl, rfl, rfl, rfl, bkb ho2.symm, bkb (by rw [ho1, bp_bit]), trivial⟩ rfl⟩
    · -- cond 0 t10 false
      refine vc_exit ?_
      refine vc_seq ?_
      refine vc_regD [(1, 2)] (by kernel_rfl) (by kernel_rfl) fun K hK => ?_
      refine runD_rd (vex_ld32 rfl rfl) rfl rfl ?_
      refine runD_rd (vex_ld32 rfl rfl) rfl rfl ?_
      refine runD_set (vex_st32 rfl rfl bits0_length rfl) rfl (by decide) rfl rfl ?_
      refine runD_set (vex_st32 rfl rfl bits0_length rfl) rfl (by decide) rfl rfl ?_
      refine runD_end (z := false) fun K' hK' => hK' _ _ _ _ (hK _ _ _ ?_)
      clear hK' K' hK K
      refine vc_ret ⟨.inr rfl, ?_⟩
      have h0 : k0 = 0 := by
        simp only [decide_eq_false_iff_not] at c0
        omega
      subst h0
      have e1 : qp a d 0 = a / d := by rw [qp, Nat.pow_zero, Nat.div_one, Nat.mul_one]
      have e2 : rp a d 0 = a % d := by rw [rp, Nat.pow_zero, Nat.div_one]
      rw [← e1, ← e2]
      change vresult _ [.cell 4 32, .cell 5 32] = _
      exact vresult_two (vres_32 (m := 2) (f := fun k => (qp a d 0).testBit k) rfl rfl) (vres_32 (m := 3) (f := fun k => (rp a d 0).testBit k) rfl rfl)
end Go.Proofs.Ytdfkcijholopoaa.Vm
