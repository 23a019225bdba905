/- What the proofs stand on, in one text: We, Wf, Ba, Bb, Bc. -/
import Derived.Test.YtdfkcijholopoaaMg4
namespace Go.Proofs.Ytdfkcijholopoaa.Vm
open Go Go.RowKit
set_option maxRecDepth 10000
set_option linter.unusedSimpArgs false
set_option linter.unusedVariables false

theorem vex_shr {ev : Operand → Value} {h : Nat → Option Blk} {t t' : Nat} {x y : Operand} {k k' : IntKind} {a b : Int} {n : Nat} (hx : ev x = .int k a) (hy : ev y = .int k' b) (hb : b = (n : Int)) (hn : n ≤ k.bits) : vex ev h (.binOp .shr t x y t') = some (.val (.int k (a.fdiv (2 ^ n)))) := by
  subst hb
  simp only [vex, vbin, hx, hy, ibin]
  rw [if_neg (by omega), Int.toNat_natCast, Nat.min_eq_left hn]
  rfl
theorem vex_shl {ev : Operand → Value} {h : Nat → Option Blk} {t t' : Nat} {x y : Operand} {k k' : IntKind} {a b : Int} {n : Nat} (hx : ev x = .int k a) (hy : ev y = .int k' b) (hb : b = (n : Int)) (hn : n ≤ k.bits) : vex ev h (.binOp .shl t x y t') = some (.val (.int k (k.wrap (a * 2 ^ n)))) := by
  subst hb
  simp only [vex, vbin, hx, hy, ibin]
  rw [if_neg (by omega), Int.toNat_natCast, Nat.min_eq_left hn]
  rfl
theorem fdiv_nat (a n : Nat) : (a : Int).fdiv (2 ^ n) = ((a / 2 ^ n : Nat) : Int) := by
  have h2 : ((2 : Int) ^ n) = ((2 ^ n : Nat) : Int) := by simp
  rw [h2, Int.fdiv_eq_ediv_of_nonneg _ (Int.natCast_nonneg _)]
  rfl

/-- The quotient of the bits from p on, in its place. -/
def qp (v d p : Nat) : Nat := v / 2 ^ p / d * 2 ^ p
def rp (v d p : Nat) : Nat := v / 2 ^ p % d
def bp (v p : Nat) : Nat := v / 2 ^ p % 2
theorem bp_lt (v p : Nat) : bp v p < 2 := Nat.mod_lt _ (by decide)
theorem rp_lt {v d p : Nat} (hd : 0 < d) : rp v d p < d := Nat.mod_lt _ hd
theorem qp_lt {v d p : Nat} (hv : v < 2 ^ 224) : qp v d p < 2 ^ 224 := by
  refine Nat.lt_of_le_of_lt ?_ hv
  exact Nat.le_trans (Nat.mul_le_mul_right _ (Nat.div_le_self _ _)) (Nat.div_mul_le_self _ _)
theorem down (v p : Nat) : v / 2 ^ p = 2 * (v / 2 ^ (p + 1)) + bp v p := by
  rw [Nat.pow_succ, ← Nat.div_div_eq_div_mul, bp, Nat.div_add_mod]
theorem two_d {V d b : Nat} (hd : 0 < d) (hb : b < 2) : (2 * V + b) = d * (2 * (V / d)) + (2 * (V % d) + b) := by
  have := Nat.div_add_mod V d
  have e : d * (2 * (V / d)) = 2 * (d * (V / d)) := by rw [Nat.mul_left_comm]
  rw [e]
  omega
theorem over_one {v d p : Nat} (hd : 0 < d) (h : d ≤ 2 * rp v d (p + 1) + bp v p) : rp v d p = 2 * rp v d (p + 1) + bp v p - d ∧ qp v d p = qp v d (p + 1) + 2 ^ p := by
  have hb := bp_lt v p
  have hr : v / 2 ^ (p + 1) % d < d := Nat.mod_lt _ hd
  unfold rp qp at *
  rw [down v p, two_d (V := v / 2 ^ (p + 1)) hd hb]
  generalize v / 2 ^ (p + 1) % d = r at *
  generalize v / 2 ^ (p + 1) / d = q at *
  have e : d * (2 * q) + (2 * r + bp v p) = d * (2 * q + 1) + (2 * r + bp v p - d) := by
    rw [Nat.mul_add]; omega
  rw [e, Nat.mul_add_mod, Nat.mod_eq_of_lt (by omega), Nat.mul_add_div hd, Nat.div_eq_of_lt (by omega), Nat.add_zero, Nat.pow_succ]
  refine ⟨rfl, ?_⟩
  rw [Nat.add_mul, Nat.one_mul, Nat.mul_comm 2 q, Nat.mul_assoc, Nat.mul_comm 2]
theorem over_nil {v d p : Nat} (hd : 0 < d) (h : 2 * rp v d (p + 1) + bp v p < d) : rp v d p = 2 * rp v d (p + 1) + bp v p ∧ qp v d p = qp v d (p + 1) := by
  have hb := bp_lt v p
  unfold rp qp at *
  rw [down v p, two_d (V := v / 2 ^ (p + 1)) hd hb]
  generalize v / 2 ^ (p + 1) % d = r at *
  generalize v / 2 ^ (p + 1) / d = q at *
  rw [Nat.mul_add_mod, Nat.mod_eq_of_lt (by omega), Nat.mul_add_div hd, Nat.div_eq_of_lt (by omega), Nat.add_zero, Nat.pow_succ]
  refine ⟨rfl, ?_⟩
  rw [Nat.mul_comm 2 q, Nat.mul_assoc, Nat.mul_comm 2]
/-- The quarter's bits below are clear. -/
theorem qp_lb {v d i b : Nat} (hb : b < 32) : ∃ x, lb (qp v d (32 * i + b + 1)) i = 2 ^ (b + 1) * x := by
  unfold lb qp
  generalize v / 2 ^ (32 * i + b + 1) / d = q
  have e : q * 2 ^ (32 * i + b + 1) = 2 ^ (32 * i) * (2 ^ (b + 1) * q) := by
    rw [Nat.add_assoc, Nat.pow_add, Nat.mul_comm q, Nat.mul_assoc]
  have hp : 0 < 2 ^ (32 * i) := Nat.pow_pos (by decide)
  rw [e, Nat.mul_div_cancel_left _ hp]
  have e2 : 2 ^ 32 = 2 ^ (b + 1) * 2 ^ (32 - (b + 1)) := by rw [← Nat.pow_add]; exact congrArg (2 ^ ·) (by omega)
  rw [e2, Nat.mul_mod_mul_left]
  exact ⟨_, rfl⟩
theorem set_bit {v d i b : Nat} (hb : b < 32) : lb (qp v d (32 * i + b + 1)) i ||| 2 ^ b = lb (qp v d (32 * i + b + 1)) i + 2 ^ b ∧ lb (qp v d (32 * i + b + 1)) i + 2 ^ b < 2 ^ 32 := by
  obtain ⟨x, hx⟩ := qp_lb (v := v) (d := d) (i := i) hb
  have hlt := lb_lt (qp v d (32 * i + b + 1)) i
  rw [hx] at hlt ⊢
  have h1 : 2 ^ b < 2 ^ (b + 1) := Nat.pow_lt_pow_right (by decide) (by omega)
  refine ⟨(Nat.two_pow_add_eq_or_of_lt h1 x).symm, ?_⟩
  have e2 : 2 ^ 32 = 2 ^ (b + 1) * 2 ^ (32 - (b + 1)) := by rw [← Nat.pow_add]; exact congrArg (2 ^ ·) (by omega)
  rw [e2] at hlt ⊢
  have h3 : x < 2 ^ (32 - (b + 1)) := Nat.lt_of_mul_lt_mul_left hlt
  have h4 : 2 ^ (b + 1) * (x + 1) ≤ 2 ^ (b + 1) * 2 ^ (32 - (b + 1)) := Nat.mul_le_mul_left _ h3
  rw [Nat.mul_add, Nat.mul_one] at h4
  exact Nat.lt_of_lt_of_le (Nat.add_lt_add_left h1 _) h4
theorem put_bit {v d i b : Nat} : put (qp v d (32 * i + b + 1)) i (lb (qp v d (32 * i + b + 1)) i + 2 ^ b) = qp v d (32 * i + b + 1) + 2 ^ (32 * i + b) := by
  have h1 := put_eq (qp v d (32 * i + b + 1)) i (lb (qp v d (32 * i + b + 1)) i + 2 ^ b)
  rw [Nat.add_mul] at h1
  have h2 : 2 ^ b * 2 ^ (32 * i) = 2 ^ (32 * i + b) := by rw [← Nat.pow_add, Nat.add_comm]
  rw [h2] at h1
  generalize lb (qp v d (32 * i + b + 1)) i * 2 ^ (32 * i) = a at *
  omega
theorem bit_of {v i b : Nat} (hb : b < 32) : lb v i / 2 ^ b % 2 = bp v (32 * i + b) := by
  unfold lb bp
  have e2 : 2 ^ 32 = 2 ^ b * 2 ^ (32 - b) := by rw [← Nat.pow_add]; exact congrArg (2 ^ ·) (by omega)
  have e3 : 2 ^ (32 - b) = 2 * 2 ^ (31 - b) := by
    rw [show 32 - b = (31 - b) + 1 by omega, Nat.pow_succ, Nat.mul_comm]
  rw [e2, Nat.mod_mul_right_div_self, e3, Nat.mod_mul_right_mod, Nat.div_div_eq_div_mul, ← Nat.pow_add]
theorem raw_bit {x n : Nat} (hx : x < 2 ^ 32) : IntKind.u64.wrap ((BitVec.ofInt IntKind.u64.bits ((x : Int).fdiv (2 ^ n)) &&& BitVec.ofInt IntKind.u64.bits 1).toNat : Int) = ((x / 2 ^ n % 2 : Nat) : Int) := by
  rw [fdiv_nat]
  have h := and_nat (x / 2 ^ n) 1 (Nat.lt_of_le_of_lt (Nat.div_le_self _ _) (by omega)) (by decide)
  rw [Nat.and_one_is_mod] at h
  exact h
theorem raw_rest {R b : Nat} (hR : R < 2 ^ 64) (hb : b < 2) : IntKind.u64.wrap ((BitVec.ofInt IntKind.u64.bits (IntKind.u64.wrap ((R : Int) * 2 ^ (min (1 : Int).toNat IntKind.u64.bits))) ||| BitVec.ofInt IntKind.u64.bits (b : Int)).toNat : Int) = ((2 * R % 2 ^ 64 + b : Nat) : Int) := by
  have h : IntKind.u64.wrap ((R : Int) * 2 ^ (min (1 : Int).toNat IntKind.u64.bits)) = ((2 * R % 2 ^ 64 : Nat) : Int) := by
    have : min (1 : Int).toNat IntKind.u64.bits = 1 := by decide
    rw [this, wrap64]
    omega
  rw [h, or_nat _ _ (by omega) (by omega)]
  have e : 2 * R % 2 ^ 64 = 2 ^ 1 * (R % 2 ^ 63) := by omega
  rw [e, Nat.two_pow_add_eq_or_of_lt (by omega)]
theorem raw_top {R : Nat} : ((R : Int).fdiv (2 ^ (min (63 : Int).toNat IntKind.u64.bits)) == 1) = decide (R / 2 ^ 63 = 1) := by
  have := shr_nat R 63 (by decide)
  rw [show ((63 : Nat) : Int) = 63 from rfl] at this
  rw [this]
  rw [Bool.eq_iff_iff]
  simp only [beq_iff_eq, decide_eq_true_eq]
  omega
theorem bb {a b : Bool} (h : a = b) : Value.bool a = .bool b := by rw [h]
theorem bk {m : Nat} {A B : Nat} (h : A = B) : some (Blk.cells (limbs A) m true) = some (.cells (limbs B) m true) := by rw [h]


theorem raw_1b {b : Nat} (hb : b < 32) : IntKind.u64.wrap (1 * 2 ^ b) = ((2 ^ b : Nat) : Int) := by
  have h : 2 ^ b < 2 ^ 32 := Nat.pow_lt_pow_right (by decide) hb
  have e : (1 * 2 ^ b : Int) = ((2 ^ b : Nat) : Int) := by simp
  rw [e]
  exact wrapN (by omega)
theorem p78 (v d : Nat) (hv : v < 2 ^ 224) (hd : 0 < d) (hd' : d < 2 ^ 64) : Pure 78 [q7 v, u64 d] (.tuple #[q7 (v / d), u64 (v % d)]) := by
  refine pure_of Try.func78 rfl Try.ntmps78 (by kernel_rfl) rfl (by simp) rfl ?_
  refine vc_seq ?_
  refine vc_go (by kernel_rfl) fun K hK => hK _ _ _ ?_
  clear hK K
  refine vc_seq ?_
  refine vc_go (by kernel_rfl) fun K hK => hK _ _ _ ?_
  clear hK K
  refine vc_seq ?_
  refine vc_go (by kernel_rfl) fun K hK => hK _ _ _ ?_
  clear hK K
  refine vc_seq ?_
  refine vc_seq ?_
  refine vc_go (by kernel_rfl) fun K hK => hK _ _ _ ?_
  clear hK K
  refine vc_block ?_
  refine vc_loop (fun n s => ∃ a p : Nat, n = a ∧ a ≤ 7 ∧ p = 32 * a ∧ IsSt [(1, u64 d), (2, pt 0), (4, pt 1), (6, pt 2), (7, u64 (rp v d p)), (8, .int .i64 ((a : Int) - 1))] [(0, .cells (limbs v) 116 true), (1, .cells (limbs 0) 116 true), (2, .cells (limbs (qp v d p)) 116 true)] 3 s) 7 ?_ ?_
  · exact ⟨7, 224, rfl, by decide, rfl, isSt ⟨rfl, rfl, rfl, rfl, iu (by rw [rp, Nat.div_eq_of_lt hv, Nat.zero_mod]; rfl), rfl, trivial⟩ ⟨rfl, rfl, bk (A := 0) (by rw [qp, Nat.div_eq_of_lt hv, Nat.zero_div, Nat.zero_mul]), trivial⟩ rfl⟩
  · rintro n s ⟨a, p, hn, ha, hp, t, h, rfl⟩
    refine vc_seq ?_
    refine vc_seq ?_
    refine vc_go (by kernel_rfl) fun K hK => hK _ _ _ ?_
    clear hK K
    refine vc_cond rfl (fun c0 => ?_) (fun c0 => ?_)
    · -- cond 0 t12 true
      refine vc_skip ?_
      refine vc_seq ?_
      refine vc_block ?_
      refine vc_seq ?_
      have h0 : 0 < a := by
        simp only [decide_eq_true_eq] at c0
        omega
      obtain ⟨i, rfl⟩ : ∃ i, a = i + 1 := ⟨a - 1, by omega⟩
      refine refocus [(1, u64 d), (2, pt 0), (4, pt 1), (6, pt 2), (7, u64 (rp v d p)), (8, .int .i64 ((i : Nat)))] [(0, .cells (limbs v) 116 true), (1, .cells (limbs 0) 116 true), (2, .cells (limbs (qp v d p)) 116 true)] 3 ⟨rfl, rfl, rfl, rfl, rfl, ii (by omega), trivial⟩ ⟨rfl, rfl, rfl, trivial⟩ rfl fun t h => ?_
      refine vc_go (by kernel_rfl) fun K hK => hK _ _ _ ?_
      clear hK K
      refine vc_block ?_
      refine vc_loop (fun n s => ∃ b p : Nat, n = b ∧ b ≤ 32 ∧ p = 32 * i + b ∧ IsSt [(1, u64 d), (2, pt 0), (4, pt 1), (6, pt 2), (7, u64 (rp v d p)), (8, .int .i64 ((i : Nat))), (9, .int .i64 ((b : Int) - 1))] [(0, .cells (limbs v) 116 true), (1, .cells (limbs 0) 116 true), (2, .cells (limbs (qp v d p)) 116 true)] 3 s) 32 ?_ ?_
      · exact ⟨32, p, rfl, by decide, by omega, isSt ⟨rfl, rfl, rfl, rfl, rfl, rfl, rfl, trivial⟩ ⟨rfl, rfl, rfl, trivial⟩ rfl⟩
      · clear hp
        rintro n s ⟨b, p, hn, hb, hp, t, h, rfl⟩
        refine vc_seq ?_
        refine vc_seq ?_
        refine vc_go (by kernel_rfl) fun K hK => hK _ _ _ ?_
        clear hK K
        refine vc_cond rfl (fun c1 => ?_) (fun c1 => ?_)
        · -- cond 1 t16 true
          refine vc_skip ?_
          refine vc_seq ?_
          refine vc_block ?_
          refine vc_seq ?_
          have h1 : 0 < b := by
            simp only [decide_eq_true_eq] at c1
            omega
          obtain ⟨b, rfl⟩ : ∃ j, b = j + 1 := ⟨b - 1, by omega⟩
          have hp' : p = (32 * i + b + 1) := hp
          subst hp'
          clear hp
          have hR : rp v d (32 * i + b + 1) < d := rp_lt hd
          have hB := bp_lt v (32 * i + b)
          have hb32 : b < 32 := by omega
          refine refocus [(1, u64 d), (2, pt 0), (4, pt 1), (6, pt 2), (7, u64 (rp v d (32 * i + b + 1))), (8, .int .i64 ((i : Nat))), (9, .int .i64 ((b : Nat)))] [(0, .cells (limbs v) 116 true), (1, .cells (limbs 0) 116 true), (2, .cells (limbs (qp v d (32 * i + b + 1))) 116 true)] 3 ⟨rfl, rfl, rfl, rfl, rfl, rfl, ii (by omega), trivial⟩ ⟨rfl, rfl, rfl, trivial⟩ rfl fun t h => ?_
          refine vc_go (by kernel_rfl) fun K hK => hK _ _ _ ?_
          clear hK K
          refine vc_seq ?_
          refine vc_reg (by kernel_rfl) fun K hK => ?_
          refine run_n (z := false) 3 (fun K' hK' => hK' _ _ _ ?_) (by decide)
          clear hK' K'
          refine run_op (vex_ixa (j := i) rfl rfl rfl (by omega) rfl rfl) rfl ?_
          refine run_rd (vex_ld1 (k' := i) rfl (Nat.zero_add _ |>.trans (Nat.mul_one _)) rfl rfl (limbs_get v (by omega))) rfl ?_
          refine run_n (z := false) 1 (fun K' hK' => hK' _ _ _ ?_) (by decide)
          clear hK' K'
          refine run_op (vex_shr (n := b) rfl rfl rfl (Nat.le_trans (Nat.le_of_lt hb32) (by decide))) rfl ?_
          refine run_end (z := false) fun K' hK' => hK' _ _ _ (hK _ _ _ ?_)
          clear hK' K' hK K
          have hbit : IntKind.u64.wrap ((BitVec.ofInt IntKind.u64.bits (((lb v i : Nat) : Int).fdiv (2 ^ b)) &&& BitVec.ofInt IntKind.u64.bits 1).toNat : Int) = ((bp v (32 * i + b) : Nat) : Int) := by rw [raw_bit (lb_lt _ _), bit_of hb32]
          refine refocus [(1, u64 d), (2, pt 0), (4, pt 1), (6, pt 2), (7, u64 (2 * rp v d (32 * i + b + 1) % 2 ^ 64 + bp v (32 * i + b))), (8, .int .i64 ((i : Nat))), (9, .int .i64 ((b : Nat))), (10, .bool (decide (rp v d (32 * i + b + 1) / 2 ^ 63 = 1)))] [(0, .cells (limbs v) 116 true), (1, .cells (limbs 0) 116 true), (2, .cells (limbs (qp v d (32 * i + b + 1))) 116 true)] 3 ⟨rfl, rfl, rfl, rfl, iu (by rw [hbit, raw_rest (by omega) hB]), rfl, rfl, bb raw_top, trivial⟩ ⟨rfl, rfl, rfl, trivial⟩ rfl fun t h => ?_
          refine vc_seq ?_
          refine vc_reg (by kernel_rfl) fun K hK => ?_
          refine run_n (z := false) 2 (fun K' hK' => hK' _ _ _ ?_) (by decide)
          clear hK' K'
          refine vgo_case 32 rfl (fun g0 => ?_) (fun g0 => ?_)
          · -- split 0 at 11,2 true
            refine run_end (z := false) fun K' hK' => hK' _ _ _ (hK _ _ _ ?_)
            clear hK' K' hK K
            refine vc_cond (t := true) rfl (fun _ => ?_) (fun h => by cases h)
            refine vc_seq ?_
            refine vc_go (by kernel_rfl) fun K hK => hK _ _ _ ?_
            clear hK K
            refine vc_regD [] (by kernel_rfl) (by kernel_rfl) fun K hK => ?_
            refine runD_n (z := false) 1 (fun K' hK' => hK' _ _ _ _ ?_) (by decide)
            clear hK' K'
            refine runD_op (vex_ixa (j := i) rfl rfl rfl (by omega) rfl rfl) rfl ?_
            refine runD_rd (vex_ld1 (k' := i) rfl (Nat.zero_add _ |>.trans (Nat.mul_one _)) rfl rfl (limbs_get _ (by omega))) rfl rfl ?_
            refine runD_n (z := false) 1 (fun K' hK' => hK' _ _ _ _ ?_) (by decide)
            clear hK' K'
            refine runD_op (vex_shl (n := b) rfl rfl rfl (Nat.le_trans (Nat.le_of_lt hb32) (by decide))) rfl ?_
            refine runD_n (z := false) 1 (fun K' hK' => hK' _ _ _ _ ?_) (by decide)
            clear hK' K'
            refine runD_op (vex_ixa (j := i) rfl rfl rfl (by omega) rfl rfl) rfl ?_
            refine runD_set (vex_st1 (k' := i) rfl (Nat.zero_add _ |>.trans (Nat.mul_one _)) rfl rfl rfl rfl rfl (by intro a h; cases h) (show i < 7 by omega)) rfl (by decide) rfl rfl ?_
            refine runD_end (z := false) fun K' hK' => hK' _ _ _ _ (hK _ _ _ ?_)
            clear hK' K' hK K
            refine vc_go (by kernel_rfl) fun K hK => hK _ _ _ ?_
            clear hK K
            simp only [decide_eq_true_eq, decide_eq_false_iff_not] at *
            obtain ⟨ho1, ho2⟩ := over_one (v := v) (d := d) (p := 32 * i + b) hd (by omega)
            obtain ⟨hs1, hs2⟩ := set_bit (v := v) (d := d) (i := i) hb32
            have hblk : IntKind.u64.wrap ((BitVec.ofInt IntKind.u64.bits ((lb (qp v d (32 * i + b + 1)) i : Nat) : Int) ||| BitVec.ofInt IntKind.u64.bits (IntKind.u64.wrap (1 * 2 ^ b))).toNat : Int) = ((lb (qp v d (32 * i + b + 1)) i + 2 ^ b : Nat) : Int) := by
              rw [raw_1b hb32, or_nat _ _ (Nat.lt_trans (lb_lt _ _) (by decide)) (Nat.lt_trans (Nat.lt_of_le_of_lt (Nat.le_add_left _ _) hs2) (by decide)), hs1]
            have hfin := (blk116 (m := 116) hblk (show i < 7 by omega) hs2).trans (bk (put_bit.trans ho2.symm))
            exact ⟨b, by omega, b, 32 * i + b, rfl, by omega, rfl, isSt ⟨rfl, rfl, rfl, rfl, iu (by rw [ho1, wrap64]; omega), rfl, ii (wrapI (by omega) (by omega)), trivial⟩ ⟨rfl, rfl, hfin, trivial⟩ rfl⟩
          · -- split 0 at 11,2 false
            refine run_end (z := false) fun K' hK' => hK' _ _ _ (hK _ _ _ ?_)
            clear hK' K' hK K
            refine vc_cond rfl (fun c3 => ?_) (fun c3 => ?_)
            · -- cond 3 t36 true
              refine vc_seq ?_
              refine vc_go (by kernel_rfl) fun K hK => hK _ _ _ ?_
              clear hK K
              refine vc_regD [] (by kernel_rfl) (by kernel_rfl) fun K hK => ?_
              refine runD_n (z := false) 1 (fun K' hK' => hK' _ _ _ _ ?_) (by decide)
              clear hK' K'
              refine runD_op (vex_ixa (j := i) rfl rfl rfl (by omega) rfl rfl) rfl ?_
              refine runD_rd (vex_ld1 (k' := i) rfl (Nat.zero_add _ |>.trans (Nat.mul_one _)) rfl rfl (limbs_get _ (by omega))) rfl rfl ?_
              refine runD_n (z := false) 1 (fun K' hK' => hK' _ _ _ _ ?_) (by decide)
              clear hK' K'
              refine runD_op (vex_shl (n := b) rfl rfl rfl (Nat.le_trans (Nat.le_of_lt hb32) (by decide))) rfl ?_
              refine runD_n (z := false) 1 (fun K' hK' => hK' _ _ _ _ ?_) (by decide)
              clear hK' K'
              refine runD_op (vex_ixa (j := i) rfl rfl rfl (by omega) rfl rfl) rfl ?_
              refine runD_set (vex_st1 (k' := i) rfl (Nat.zero_add _ |>.trans (Nat.mul_one _)) rfl rfl rfl rfl rfl (by intro a h; cases h) (show i < 7 by omega)) rfl (by decide) rfl rfl ?_
              refine runD_end (z := false) fun K' hK' => hK' _ _ _ _ (hK _ _ _ ?_)
              clear hK' K' hK K
              refine vc_go (by kernel_rfl) fun K hK => hK _ _ _ ?_
              clear hK K
              simp only [decide_eq_true_eq, decide_eq_false_iff_not] at *
              obtain ⟨ho1, ho2⟩ := over_one (v := v) (d := d) (p := 32 * i + b) hd (by omega)
              obtain ⟨hs1, hs2⟩ := set_bit (v := v) (d := d) (i := i) hb32
              have hblk : IntKind.u64.wrap ((BitVec.ofInt IntKind.u64.bits ((lb (qp v d (32 * i + b + 1)) i : Nat) : Int) ||| BitVec.ofInt IntKind.u64.bits (IntKind.u64.wrap (1 * 2 ^ b))).toNat : Int) = ((lb (qp v d (32 * i + b + 1)) i + 2 ^ b : Nat) : Int) := by
                rw [raw_1b hb32, or_nat _ _ (Nat.lt_trans (lb_lt _ _) (by decide)) (Nat.lt_trans (Nat.lt_of_le_of_lt (Nat.le_add_left _ _) hs2) (by decide)), hs1]
              have hfin := (blk116 (m := 116) hblk (show i < 7 by omega) hs2).trans (bk (put_bit.trans ho2.symm))
              exact ⟨b, by omega, b, 32 * i + b, rfl, by omega, rfl, isSt ⟨rfl, rfl, rfl, rfl, iu (by rw [ho1, wrap64]; omega), rfl, ii (wrapI (by omega) (by omega)), trivial⟩ ⟨rfl, rfl, hfin, trivial⟩ rfl⟩
            · -- cond 3 t36 false
              refine vc_skip ?_
              refine vc_go (by kernel_rfl) fun K hK => hK _ _ _ ?_
              clear hK K
              simp only [decide_eq_true_eq, decide_eq_false_iff_not] at *
              obtain ⟨ho1, ho2⟩ := over_nil (v := v) (d := d) (p := 32 * i + b) hd (by omega)
              exact ⟨b, by omega, b, 32 * i + b, rfl, by omega, rfl, isSt ⟨rfl, rfl, rfl, rfl, iu (by rw [ho1]; omega), rfl, ii (wrapI (by omega) (by omega)), trivial⟩ ⟨rfl, rfl, bk ho2.symm, trivial⟩ rfl⟩
        · -- cond 1 t16 false
          refine vc_exit ?_
          refine vc_go (by kernel_rfl) fun K hK => hK _ _ _ ?_
          clear hK K
          have hb0 : b = 0 := by
            simp only [decide_eq_false_iff_not] at c1
            omega
          exact ⟨i, by omega, i, p, rfl, by omega, by omega, isSt ⟨rfl, rfl, rfl, rfl, rfl, ii (wrapI (by omega) (by omega)), trivial⟩ ⟨rfl, rfl, rfl, trivial⟩ rfl⟩
    · -- cond 0 t12 false
      refine vc_exit ?_
      refine vc_seq ?_
      refine vc_go (by kernel_rfl) fun K hK => hK _ _ _ ?_
      clear hK K
      refine vc_ret ⟨.inr rfl, ?_⟩
      have ha0 : a = 0 := by
        simp only [decide_eq_false_iff_not] at c0
        omega
      subst ha0
      have hp0 : p = 0 := hp
      subst hp0
      have e1 : qp v d 0 = v / d := by rw [qp, Nat.pow_zero, Nat.div_one, Nat.mul_one]
      have e2 : rp v d 0 = v % d := by rw [rp, Nat.pow_zero, Nat.div_one]
      rw [← e1, ← e2]
      rfl
end Go.Proofs.Ytdfkcijholopoaa.Vm
namespace Go.Proofs.Ytdfkcijholopoaa.Vm
open Go Go.RowKit
set_option maxRecDepth 10000
set_option linter.unusedSimpArgs false
set_option linter.unusedVariables false

theorem p34w {a : Nat} (ha : a < 2 ^ 64) : Pure 34 [u64 a] (wd a) := by
  have h := p34 (a : Int)
  have e : Value.agg #[.int .u64 0, .int .u64 (a : Int)] = wd a := by
    unfold wd
    rw [Nat.div_eq_of_lt ha, Nat.mod_eq_of_lt ha]
    rfl
  rw [e] at h
  exact h
theorem wd_small {a : Nat} (ha : a < 2 ^ 64) : wd a = .agg #[.int .u64 0, .int .u64 (a : Int)] := by
  unfold wd
  rw [Nat.div_eq_of_lt ha, Nat.mod_eq_of_lt ha]
  rfl
theorem mul_lt {a b A B : Nat} (ha : a < A) (hb : b < B) : a * b < A * B := by
  refine Nat.lt_of_le_of_lt (Nat.mul_le_mul_right b (Nat.le_of_lt ha)) (Nat.mul_lt_mul_of_pos_left hb (by omega))
theorem p84m {v m : Nat} (hv : v < 2 ^ 128) (hm : m < 2 ^ 64) : Pure 84 [q7 v, u64 m, u64 0] (q7 (v * m)) := by
  have h := p84 v m 0 (Nat.lt_trans hv (by decide)) hm (by decide)
  have hlt : v * m < 2 ^ 224 := Nat.lt_trans (mul_lt hv hm) (by decide)
  rw [Nat.add_zero, Nat.mod_eq_of_lt hlt] at h
  exact h
theorem p84o {v : Nat} (hv : v + 1 < 2 ^ 224) : Pure 84 [q7 v, u64 1, u64 1] (q7 (v + 1)) := by
  have h := p84 v 1 1 (Nat.lt_of_succ_lt hv) (by decide) (by decide)
  rw [Nat.mul_one, Nat.mod_eq_of_lt hv] at h
  exact h
theorem p79w {v : Nat} (hv : v < 2 ^ 128) : Pure 79 [q7 v] (.tuple #[wd v, .bool true]) := by
  have h := p79 v (Nat.lt_trans hv (by decide))
  rw [Nat.mod_eq_of_lt hv, decide_eq_true hv] at h
  exact h


theorem p33 {a b : Nat} (ha : a < 2 ^ 64) (hb : b < 2 ^ 64) : Pure 33 [u64 a, u64 b] (wd (a * b)) := by
  have hab : a * b < 2 ^ 128 := Nat.lt_of_lt_of_le (mul_lt ha hb) (by decide)
  refine pure_of Try.func33 rfl Try.ntmps33 (by kernel_rfl) rfl (by simp) rfl ?_
  refine vc_seq ?_
  refine vc_go (by kernel_rfl) fun K hK => hK _ _ _ ?_
  clear hK K
  refine vc_seq ?_
  refine vc_reg (by kernel_rfl) fun K hK => ?_
  refine run_n (z := false) 1 (fun K' hK' => hK' _ _ _ ?_) (by decide)
  clear hK' K'
  refine run_call (p34w ha) rfl rfl rfl rfl ?_
  refine run_call (p77 a (Nat.lt_trans ha (by decide))) rfl rfl rfl rfl ?_
  refine run_n (z := false) 1 (fun K' hK' => hK' _ _ _ ?_) (by decide)
  clear hK' K'
  refine run_call (p84m (Nat.lt_trans ha (by decide)) hb) rfl rfl rfl rfl ?_
  refine run_call (p79w hab) rfl rfl rfl rfl ?_
  refine run_end (z := false) fun K' hK' => hK' _ _ _ (hK _ _ _ ?_)
  clear hK' K' hK K
  refine vc_seq ?_
  refine vc_go (by kernel_rfl) fun K hK => hK _ _ _ ?_
  clear hK K
  exact vc_ret ⟨.inr rfl, rfl⟩

def div3 (a d : Nat) : Value := if d = 0 then .tuple #[wd 0, u64 0, .int .i64 130] else .tuple #[wd (a / d), u64 (a % d), .int .i64 0]
theorem div3_zero {a d : Nat} (h : d = 0) : div3 a d = .tuple #[wd 0, u64 0, .int .i64 130] := if_pos h
theorem div3_pos {a d : Nat} (h : 0 < d) : div3 a d = .tuple #[wd (a / d), u64 (a % d), .int .i64 0] := if_neg (by omega)
theorem p22 {a d : Nat} (ha : a < 2 ^ 128) (hd : d < 2 ^ 64) : Pure 22 [wd a, u64 d] (div3 a d) := by
  have hq : a / d < 2 ^ 128 := Nat.lt_of_le_of_lt (Nat.div_le_self _ _) ha
  refine pure_of Try.func22 rfl Try.ntmps22 (by kernel_rfl) rfl (by simp) (by unfold div3; split <;> rfl) ?_
  refine vc_seq ?_
  refine vc_go (by kernel_rfl) fun K hK => hK _ _ _ ?_
  clear hK K
  refine vc_seq ?_
  refine vc_seq ?_
  refine vc_go (by kernel_rfl) fun K hK => hK _ _ _ ?_
  clear hK K
  refine vc_cond rfl (fun c0 => ?_) (fun c0 => ?_)
  · -- cond 0 t12 true
    refine vc_seq ?_
    refine vc_go (by kernel_rfl) fun K hK => hK _ _ _ ?_
    clear hK K
    refine vc_ret ⟨.inr rfl, ?_⟩
    have h0 : d = 0 := by
      simp only [beq_iff_eq] at c0
      omega
    rw [div3_zero h0]
    rfl
  · -- cond 0 t12 false
    refine vc_skip ?_
    refine vc_seq ?_
    have hd0 : 0 < d := by
      simp only [beq_eq_false_iff_ne] at c0
      omega
    refine vc_reg (by kernel_rfl) fun K hK => ?_
    refine run_n (z := false) 1 (fun K' hK' => hK' _ _ _ ?_) (by decide)
    clear hK' K'
    refine run_call (p77 a ha) rfl rfl rfl rfl ?_
    refine run_n (z := false) 1 (fun K' hK' => hK' _ _ _ ?_) (by decide)
    clear hK' K'
    refine run_call (p78 a d (Nat.lt_trans ha (by decide)) hd0 hd) rfl rfl rfl rfl ?_
    refine run_end (z := false) fun K' hK' => hK' _ _ _ (hK _ _ _ ?_)
    clear hK' K' hK K
    refine vc_seq ?_
    refine vc_reg (by kernel_rfl) fun K hK => ?_
    refine run_n (z := false) 1 (fun K' hK' => hK' _ _ _ ?_) (by decide)
    clear hK' K'
    refine run_call (p79w hq) rfl rfl rfl rfl ?_
    refine run_end (z := false) fun K' hK' => hK' _ _ _ (hK _ _ _ ?_)
    clear hK' K' hK K
    refine vc_seq ?_
    refine vc_go (by kernel_rfl) fun K hK => hK _ _ _ ?_
    clear hK K
    refine vc_ret ⟨.inr rfl, ?_⟩
    rw [div3_pos hd0]
    rfl

/-- The product over a number, rounded down, or up. -/
def sc (a m d : Nat) (up : Bool) : Nat := a * m / d + if up = true ∧ 0 < a * m % d then 1 else 0
def scR (a m d : Nat) (up : Bool) : Value := if d = 0 then resW 0 130 else if sc a m d up < 2 ^ 128 then resW (sc a m d up) 0 else resW 0 131
theorem scR_plain (a m d : Nat) (up : Bool) : plain (scR a m d up) = true := by
  unfold scR
  repeat' split
  all_goals rfl
theorem scR_zero {a m d : Nat} {up : Bool} (h : d = 0) : scR a m d up = resW 0 130 := if_pos h
theorem scR_ok {a m d : Nat} {up : Bool} (h : 0 < d) (h2 : sc a m d up < 2 ^ 128) : scR a m d up = resW (sc a m d up) 0 := (if_neg (by omega)).trans (if_pos h2)
theorem scR_bad {a m d : Nat} {up : Bool} (h : 0 < d) (h2 : ¬ sc a m d up < 2 ^ 128) : scR a m d up = resW 0 131 := (if_neg (by omega)).trans (if_neg h2)
theorem p80 {a m d : Nat} (up : Bool) (ha : a < 2 ^ 128) (hm : m < 2 ^ 64) (hd : d < 2 ^ 64) : Pure 80 [wd a, u64 m, u64 d, .bool up] (scR a m d up) := by
  have ham : a * m < 2 ^ 192 := Nat.lt_of_lt_of_le (mul_lt ha hm) (by decide)
  have hq : a * m / d + 1 < 2 ^ 224 := Nat.lt_of_le_of_lt (Nat.add_le_add_right (Nat.div_le_self _ _) 1) (by omega)
  refine pure_of Try.func80 rfl Try.ntmps80 (by kernel_rfl) rfl (by simp) (scR_plain _ _ _ _) ?_
  refine vc_seq ?_
  refine vc_go (by kernel_rfl) fun K hK => hK _ _ _ ?_
  clear hK K
  refine vc_seq ?_
  refine vc_seq ?_
  refine vc_go (by kernel_rfl) fun K hK => hK _ _ _ ?_
  clear hK K
  refine vc_cond rfl (fun c0 => ?_) (fun c0 => ?_)
  · -- cond 0 t15 true
    refine vc_seq ?_
    refine vc_go (by kernel_rfl) fun K hK => hK _ _ _ ?_
    clear hK K
    refine vc_ret ⟨.inr rfl, ?_⟩
    have h0 : d = 0 := by
      simp only [beq_iff_eq] at c0
      omega
    rw [scR_zero h0]
    rfl
  · -- cond 0 t15 false
    refine vc_skip ?_
    refine vc_seq ?_
    have hd0 : 0 < d := by
      simp only [beq_eq_false_iff_ne] at c0
      omega
    refine vc_reg (by kernel_rfl) fun K hK => ?_
    refine run_n (z := false) 1 (fun K' hK' => hK' _ _ _ ?_) (by decide)
    clear hK' K'
    refine run_call (p77 a ha) rfl rfl rfl rfl ?_
    refine run_n (z := false) 1 (fun K' hK' => hK' _ _ _ ?_) (by decide)
    clear hK' K'
    refine run_call (p84m ha hm) rfl rfl rfl rfl ?_
    refine run_n (z := false) 1 (fun K' hK' => hK' _ _ _ ?_) (by decide)
    clear hK' K'
    refine run_call (p78 (a * m) d (by omega) hd0 hd) rfl rfl rfl rfl ?_
    refine run_end (z := false) fun K' hK' => hK' _ _ _ (hK _ _ _ ?_)
    clear hK' K' hK K
    refine vc_seq ?_
    refine vc_seq ?_
    refine vc_reg (by kernel_rfl) fun K hK => ?_
    refine run_n (z := false) 2 (fun K' hK' => hK' _ _ _ ?_) (by decide)
    clear hK' K'
    refine vgo_case 27 rfl (fun g0 => ?_) (fun g0 => ?_)
    · -- split 0 at 4,2 true
      refine run_end (z := false) fun K' hK' => hK' _ _ _ (hK _ _ _ ?_)
      clear hK' K' hK K
      refine vc_cond rfl (fun c1 => ?_) (fun c1 => ?_)
      · -- cond 1 t30 true
        refine vc_reg (by kernel_rfl) fun K hK => ?_
        refine run_n (z := false) 1 (fun K' hK' => hK' _ _ _ ?_) (by decide)
        clear hK' K'
        refine run_call (p84o hq) rfl rfl rfl rfl ?_
        refine run_end (z := false) fun K' hK' => hK' _ _ _ (hK _ _ _ ?_)
        clear hK' K' hK K
        refine vc_seq ?_
        refine vc_reg (by kernel_rfl) fun K hK => ?_
        refine run_n (z := false) 1 (fun K' hK' => hK' _ _ _ ?_) (by decide)
        clear hK' K'
        refine run_call (p79 _ hq) rfl rfl rfl rfl ?_
        refine run_end (z := false) fun K' hK' => hK' _ _ _ (hK _ _ _ ?_)
        clear hK' K' hK K
        refine vc_seq ?_
        refine vc_seq ?_
        refine vc_go (by kernel_rfl) fun K hK => hK _ _ _ ?_
        clear hK K
        refine vc_cond rfl (fun c2 => ?_) (fun c2 => ?_)
        · -- cond 2 t39 true
          refine vc_seq ?_
          refine vc_go (by kernel_rfl) fun K hK => hK _ _ _ ?_
          clear hK K
          refine vc_ret ⟨.inr rfl, ?_⟩
          simp only [Bool.not_eq_true', decide_eq_true_eq, decide_eq_false_iff_not, Bool.not_eq_false'] at *
          have hs : sc a m d up = a * m / d + 1 := by rw [sc, if_pos ⟨g0, by omega⟩]
          rw [scR_bad hd0 (by rw [hs]; exact c2)]
          rfl
        · -- cond 2 t39 false
          refine vc_skip ?_
          refine vc_seq ?_
          refine vc_go (by kernel_rfl) fun K hK => hK _ _ _ ?_
          clear hK K
          refine vc_ret ⟨.inr rfl, ?_⟩
          simp only [Bool.not_eq_true', decide_eq_true_eq, decide_eq_false_iff_not, Bool.not_eq_false'] at *
          have hs : sc a m d up = a * m / d + 1 := by rw [sc, if_pos ⟨g0, by omega⟩]
          refine Eq.trans (b := some (.tuple #[.agg #[.int .u64 _, .int .u64 _], .int .i64 _])) rfl ?_
          refine fin_we (a * m / d + 1) (by rw [Nat.mod_eq_of_lt c2]) (by rw [Nat.mod_eq_of_lt c2]) (by rw [scR_ok hd0 (by rw [hs]; exact c2), hs])
      · -- cond 1 t30 false
        refine vc_skip ?_
        refine vc_seq ?_
        refine vc_reg (by kernel_rfl) fun K hK => ?_
        refine run_n (z := false) 1 (fun K' hK' => hK' _ _ _ ?_) (by decide)
        clear hK' K'
        refine run_call (p79 _ (by omega)) rfl rfl rfl rfl ?_
        refine run_end (z := false) fun K' hK' => hK' _ _ _ (hK _ _ _ ?_)
        clear hK' K' hK K
        refine vc_seq ?_
        refine vc_seq ?_
        refine vc_go (by kernel_rfl) fun K hK => hK _ _ _ ?_
        clear hK K
        refine vc_cond rfl (fun c3 => ?_) (fun c3 => ?_)
        · -- cond 3 t39 true
          refine vc_seq ?_
          refine vc_go (by kernel_rfl) fun K hK => hK _ _ _ ?_
          clear hK K
          refine vc_ret ⟨.inr rfl, ?_⟩
          simp only [Bool.not_eq_true', decide_eq_true_eq, decide_eq_false_iff_not, Bool.not_eq_false'] at *
          have hs : sc a m d up = a * m / d := by rw [sc, if_neg (fun h => by omega), Nat.add_zero]
          rw [scR_bad hd0 (by rw [hs]; exact c3)]
          rfl
        · -- cond 3 t39 false
          refine vc_skip ?_
          refine vc_seq ?_
          refine vc_go (by kernel_rfl) fun K hK => hK _ _ _ ?_
          clear hK K
          refine vc_ret ⟨.inr rfl, ?_⟩
          simp only [Bool.not_eq_true', decide_eq_true_eq, decide_eq_false_iff_not, Bool.not_eq_false'] at *
          have hs : sc a m d up = a * m / d := by rw [sc, if_neg (fun h => by omega), Nat.add_zero]
          refine Eq.trans (b := some (.tuple #[.agg #[.int .u64 _, .int .u64 _], .int .i64 _])) rfl ?_
          refine fin_we (a * m / d) (by rw [Nat.mod_eq_of_lt c3]) (by rw [Nat.mod_eq_of_lt c3]) (by rw [scR_ok hd0 (by rw [hs]; exact c3), hs])
    · -- split 0 at 4,2 false
      refine run_end (z := false) fun K' hK' => hK' _ _ _ (hK _ _ _ ?_)
      clear hK' K' hK K
      refine vc_cond (t := false) rfl (fun h => by cases h) (fun _ => ?_)
      refine vc_skip ?_
      refine vc_seq ?_
      refine vc_reg (by kernel_rfl) fun K hK => ?_
      refine run_n (z := false) 1 (fun K' hK' => hK' _ _ _ ?_) (by decide)
      clear hK' K'
      refine run_call (p79 _ (by omega)) rfl rfl rfl rfl ?_
      refine run_end (z := false) fun K' hK' => hK' _ _ _ (hK _ _ _ ?_)
      clear hK' K' hK K
      refine vc_seq ?_
      refine vc_seq ?_
      refine vc_go (by kernel_rfl) fun K hK => hK _ _ _ ?_
      clear hK K
      refine vc_cond rfl (fun c5 => ?_) (fun c5 => ?_)
      · -- cond 5 t39 true
        refine vc_seq ?_
        refine vc_go (by kernel_rfl) fun K hK => hK _ _ _ ?_
        clear hK K
        refine vc_ret ⟨.inr rfl, ?_⟩
        simp only [Bool.not_eq_true', decide_eq_true_eq, decide_eq_false_iff_not, Bool.not_eq_false'] at *
        have hs : sc a m d up = a * m / d := by rw [sc, if_neg (fun h => by rw [g0] at h; exact absurd h.1 (by decide)), Nat.add_zero]
        rw [scR_bad hd0 (by rw [hs]; exact c5)]
        rfl
      · -- cond 5 t39 false
        refine vc_skip ?_
        refine vc_seq ?_
        refine vc_go (by kernel_rfl) fun K hK => hK _ _ _ ?_
        clear hK K
        refine vc_ret ⟨.inr rfl, ?_⟩
        simp only [Bool.not_eq_true', decide_eq_true_eq, decide_eq_false_iff_not, Bool.not_eq_false'] at *
        have hs : sc a m d up = a * m / d := by rw [sc, if_neg (fun h => by rw [g0] at h; exact absurd h.1 (by decide)), Nat.add_zero]
        refine Eq.trans (b := some (.tuple #[.agg #[.int .u64 _, .int .u64 _], .int .i64 _])) rfl ?_
        refine fin_we (a * m / d) (by rw [Nat.mod_eq_of_lt c5]) (by rw [Nat.mod_eq_of_lt c5]) (by rw [scR_ok hd0 (by rw [hs]; exact c5), hs])

theorem scR_res (a m d : Nat) (up : Bool) : ∃ x e, scR a m d up = resW x e ∧ ((d = 0 ∧ x = 0 ∧ e = 130) ∨ (0 < d ∧ sc a m d up < 2 ^ 128 ∧ x = sc a m d up ∧ e = 0) ∨ (0 < d ∧ ¬ sc a m d up < 2 ^ 128 ∧ x = 0 ∧ e = 131)) := by
  by_cases h : d = 0
  · exact ⟨0, 130, scR_zero h, .inl ⟨h, rfl, rfl⟩⟩
  · have hd : 0 < d := by omega
    by_cases h2 : sc a m d up < 2 ^ 128
    · exact ⟨_, 0, scR_ok hd h2, .inr (.inl ⟨hd, h2, rfl, rfl⟩)⟩
    · exact ⟨0, 131, scR_bad hd h2, .inr (.inr ⟨hd, h2, rfl, rfl⟩)⟩
theorem p23 {a m d : Nat} (ha : a < 2 ^ 128) (hm : m < 2 ^ 64) (hd : d < 2 ^ 64) : Pure 23 [wd a, u64 m, u64 d] (scR a m d true) := by
  have h80 := p80 true ha hm hd
  obtain ⟨x, e, hs, _⟩ := scR_res a m d true
  rw [hs] at h80 ⊢
  refine pure_of Try.func23 rfl Try.ntmps23 (by kernel_rfl) rfl (by simp) rfl ?_
  refine vc_seq ?_
  refine vc_go (by kernel_rfl) fun K hK => hK _ _ _ ?_
  clear hK K
  refine vc_seq ?_
  refine vc_reg (by kernel_rfl) fun K hK => ?_
  refine run_n (z := false) 3 (fun K' hK' => hK' _ _ _ ?_) (by decide)
  clear hK' K'
  refine run_call (h80) rfl rfl rfl rfl ?_
  refine run_end (z := false) fun K' hK' => hK' _ _ _ (hK _ _ _ ?_)
  clear hK' K' hK K
  exact vc_ret ⟨.inr rfl, rfl⟩

theorem p21 : Pure 21 [] (.bool true) := by
  refine pure_of Try.func21 rfl Try.ntmps21 (by kernel_rfl) rfl (by simp) rfl ?_
  refine vc_seq ?_
  refine vc_go (by kernel_rfl) fun K hK => hK _ _ _ ?_
  clear hK K
  refine vc_seq ?_
  refine vc_reg (by kernel_rfl) fun K hK => ?_
  refine run_call (p33 (a := 9223372036854775808) (b := 4) (by decide) (by decide)) rfl rfl rfl rfl ?_
  refine run_end (z := false) fun K' hK' => hK' _ _ _ (hK _ _ _ ?_)
  clear hK' K' hK K
  refine vc_seq ?_
  refine vc_reg (by kernel_rfl) fun K hK => ?_
  refine run_n (z := false) 1 (fun K' hK' => hK' _ _ _ ?_) (by decide)
  clear hK' K'
  refine run_call (p22 (a := 18446744073709551616) (d := 10) (by decide) (by decide)) rfl rfl rfl rfl ?_
  refine run_end (z := false) fun K' hK' => hK' _ _ _ (hK _ _ _ ?_)
  clear hK' K' hK K
  refine vc_seq ?_
  refine vc_regD [(8, 9)] (by kernel_rfl) (by kernel_rfl) fun K hK => ?_
  refine runD_n (z := false) 9 (fun K' hK' => hK' _ _ _ _ ?_) (by decide)
  clear hK' K'
  refine runD_call (p34w (a := 1844674407370955161) (by decide)) rfl rfl rfl rfl ?_
  refine runD_end (z := false) fun K' hK' => hK' _ _ _ _ (hK _ _ _ ?_)
  clear hK' K' hK K
  exact vc_ret ⟨.inr rfl, rfl⟩
end Go.Proofs.Ytdfkcijholopoaa.Vm
namespace Go.Proofs.Ytdfkcijholopoaa.Vm
open Go Go.RowKit
set_option maxRecDepth 10000
set_option linter.unusedSimpArgs false

theorem bl_ex : ∃ g : (Nat → Bool) → List Value, ∀ f, g f = (List.range 256).map fun k => Value.bool (f k) := ⟨_, fun _ => rfl⟩
/-- 256 bools (never unfolded). -/
noncomputable def bl : (Nat → Bool) → List Value := Classical.choose bl_ex
theorem bl_eq (f : Nat → Bool) : bl f = (List.range 256).map fun k => Value.bool (f k) := Classical.choose_spec bl_ex f
theorem bl_length (f : Nat → Bool) : (bl f).length = 256 := by rw [bl_eq, List.length_map, List.length_range]
theorem bl_get (f : Nat → Bool) {k : Nat} (hk : k < 256) : (bl f)[k]? = some (.bool (f k)) := by
  rw [bl_eq, List.getElem?_map, List.getElem?_range hk]
  rfl
theorem bl_congr {f g : Nat → Bool} (h : ∀ k, k < 256 → f k = g k) : bl f = bl g := by
  rw [bl_eq, bl_eq]
  refine List.map_congr_left fun k hk => ?_
  rw [h k (List.mem_range.1 hk)]
theorem bl_set {f : Nat → Bool} {k : Nat} {b : Bool} (hk : k < 256) : (bl f).set k (.bool b) = bl (fun i => if i = k then b else f i) := by
  apply List.ext_getElem?
  intro i
  rw [List.getElem?_set]
  by_cases hi : i < 256
  · rw [bl_get (fun i => if i = k then b else f i) hi]
    by_cases e : k = i
    · subst e; rw [if_pos rfl, if_pos (by rw [bl_length]; exact hk), if_pos rfl]
    · rw [if_neg e, bl_get f hi, if_neg (fun h => e h.symm)]
  · rw [if_neg (by omega), List.getElem?_eq_none (by rw [bl_length]; omega), List.getElem?_eq_none (by rw [bl_length]; omega)]
theorem bl_zero : bits0 = bl (fun _ => false) := by
  apply List.ext_getElem?
  intro i
  by_cases hi : i < 256
  · rw [bl_get _ hi]
    unfold bits0 falses
    rw [List.getElem?_map, List.getElem?_replicate, if_pos hi]
    rfl
  · rw [List.getElem?_eq_none (by rw [bits0_length]; omega), List.getElem?_eq_none (by rw [bl_length]; omega)]
theorem bl_mem {f : Nat → Bool} {v : Value} (h : v ∈ bl f) : ∃ b, v = .bool b := by
  rw [bl_eq] at h
  obtain ⟨k, _, rfl⟩ := List.mem_map.1 h
  exact ⟨_, rfl⟩
def ba (f : Nat → Bool) : Value → Prop := fun v => v = .agg (bl f).toArray
theorem plain_bl (f : Nat → Bool) : plain (.agg (bl f).toArray) = true := by
  rw [plain, plainA]
  refine (plainL_iff _).2 fun v hv => ?_
  obtain ⟨b, rfl⟩ := bl_mem hv
  rfl
theorem one_bl (f : Nat → Bool) : ((bl f).toArray.toList.all (·.oneCell')) = true := by
  rw [List.all_eq_true]
  intro v hv
  obtain ⟨b, rfl⟩ := bl_mem (f := f) (by simpa using hv)
  rfl

/-- The bits of v. -/
noncomputable def b8 (v : Nat) : Value := .agg (bl (fun k => v.testBit k)).toArray
theorem plain_b8 (v : Nat) : plain (b8 v) = true := plain_bl _
theorem b8_of {f : Nat → Bool} {v : Nat} (h : ∀ k, k < 256 → f k = v.testBit k) : Value.agg (bl f).toArray = b8 v := by
  unfold b8
  rw [bl_congr h]

section
variable {ev : Operand → Value} {h : Nat → Option Blk}
theorem vex_ld32 {x : Operand} {m : Nat} {f : Nat → Bool} {tt : Nat} {own : Bool} (hx : ev x = .pointer (some ⟨m, 0, none⟩)) (hh : h m = some (.cells (bl f) tt own)) :
    vex ev h (.load 32 x) = some (.rd m (.agg (bl f).toArray)) := by
  have ht : ty 32 = some (true, bits0) := rfl
  simp only [vex, hx, ht, hh, partAt]
  rw [if_pos ⟨trivial, by rw [bl_length, bits0_length]⟩]
  rfl
theorem vex_st32 {x y : Operand} {m : Nat} {c : List Value} {f : Nat → Bool} {tt : Nat} (hx : ev x = .pointer (some ⟨m, 0, none⟩)) (hh : h m = some (.cells c tt true)) (hl : c.length = 256) (hy : ev y = .agg (bl f).toArray) :
    vex ev h (.store 32 x y) = some (.set m (.cells (bl f) tt true)) := by
  have ht : ty 32 = some (true, bits0) := rfl
  simp only [vex, hx, ht, hh, hy, setAt]
  rw [if_pos ⟨by simp [bl_length, bits0_length], one_bl f⟩, if_pos ⟨trivial, by rw [hl, bits0_length]⟩]
  rfl
theorem vex_ne32 {x y : Operand} {f g : Nat → Bool} (hx : ev x = .agg (bl f).toArray) (hy : ev y = .agg (bl g).toArray) {b : Bool} (hb : b = true ↔ ∀ k, k < 256 → f k = g k) {u : Nat} :
    vex ev h (.binOp .neq 32 x y u) = some (.val (.bool !b)) := by
  have e : ∀ f : Nat → Bool, unB (bl f) = some ((List.range 256).map f) := by
    intro f
    rw [bl_eq, show ((List.range 256).map fun k => Value.bool (f k)) = ((List.range 256).map f).map Value.bool from by rw [List.map_map]; rfl]
    exact unB_bools _
  have hbe : ((List.range 256).map f == (List.range 256).map g) = b := by
    rw [Bool.eq_iff_iff, beq_iff_eq, hb]
    constructor
    · intro he k hk
      have h1 := congrArg (fun l => l[k]?) he
      simpa [List.getElem?_range, hk] using h1
    · intro he
      exact List.map_congr_left fun k hk => he k (List.mem_range.1 hk)
  have ha : aeq 32 (bl f).toArray.toList (bl g).toArray.toList = some b := by
    unfold aeq
    simp only [e, List.length_map, List.length_range, and_self, if_true]
    exact congrArg some hbe
  simp only [vex, vbin, hx, hy]
  rw [ha]
  rfl
end
theorem vres_32 {s : St} {p m : Nat} {f : Nat → Bool} {tt : Nat} {own : Bool} (hp : s.t p = .pointer (some ⟨m, 0, none⟩)) (hm : s.h m = some (.cells (bl f) tt own)) : vres s (.cell p 32) = some (.agg (bl f).toArray) := by
  have ht : ty 32 = some (true, bits0) := rfl
  simp only [vres, hp, ht, hm, partAt]
  rw [if_pos ⟨trivial, by rw [bl_length, bits0_length]⟩]
theorem blk32 {f f' : Nat → Bool} {k m : Nat} {b : Bool} (hk : k < 256) (h : ∀ i, i < 256 → (if i = k then b else f i) = f' i) : some (Blk.cells ((bl f).set k (.bool b)) m true) = some (.cells (bl f') m true) := by
  rw [bl_set hk, bl_congr h]
theorem blk0 {m : Nat} {f : Nat → Bool} (h : ∀ k, k < 256 → f k = false) : some (Blk.cells bits0 m true) = some (.cells (bl f) m true) := by
  rw [bl_zero, bl_congr fun k hk => (h k hk).symm]
theorem bit_raw (x i : Nat) : (((x : Int).fdiv (2 ^ i)).tmod 2 == 1) = x.testBit i := by
  rw [fdiv_nat, Nat.testBit_eq_decide_div_mod_eq, Bool.eq_iff_iff]
  rw [beq_iff_eq, decide_eq_true_eq, Int.tmod_eq_emod_of_nonneg (Int.natCast_nonneg _)]
  generalize x / 2 ^ i = y
  omega
end Go.Proofs.Ytdfkcijholopoaa.Vm
namespace Go.Proofs.Ytdfkcijholopoaa.Vm
open Go Go.RowKit
set_option maxRecDepth 10000
set_option linter.unusedSimpArgs false

theorem tb (x i : Nat) : x.testBit i = decide (x / 2 ^ i % 2 = 1) := Nat.testBit_eq_decide_div_mod_eq
theorem mod_bit (x i : Nat) : x % 2 ^ (i + 1) = x % 2 ^ i + 2 ^ i * (x.testBit i).toNat := by
  rw [Nat.pow_succ, Nat.mod_mul, tb]
  have h : x / 2 ^ i % 2 = 0 ∨ x / 2 ^ i % 2 = 1 := by omega
  rcases h with h | h <;> rw [h] <;> rfl
/-- What is carried into place i. -/
def cr (x y i : Nat) : Bool := decide (2 ^ i ≤ x % 2 ^ i + y % 2 ^ i)
theorem cr_zero (x y : Nat) : cr x y 0 = false := by simp [cr, Nat.mod_one]
theorem cr_step (x y i : Nat) : cr x y (i + 1) = decide (2 ≤ (x.testBit i).toNat + (y.testBit i).toNat + (cr x y i).toNat) := by
  have hp : 0 < 2 ^ i := Nat.pow_pos (by decide)
  have hx := Nat.mod_lt x hp
  have hy := Nat.mod_lt y hp
  unfold cr
  rw [mod_bit, mod_bit, Nat.pow_succ]
  generalize 2 ^ i = p at *
  generalize x % p = X at *
  generalize y % p = Y at *
  cases x.testBit i <;> cases y.testBit i <;> by_cases h : p ≤ X + Y <;> simp [h] <;> omega
theorem sum_bit (x y i : Nat) : (x + y).testBit i = decide (((x.testBit i).toNat + (y.testBit i).toNat + (cr x y i).toNat) % 2 = 1) := by
  have hp : 0 < 2 ^ i := Nat.pow_pos (by decide)
  have hx := Nat.mod_lt x hp
  have hy := Nat.mod_lt y hp
  have e : (x + y) / 2 ^ i = x / 2 ^ i + y / 2 ^ i + (cr x y i).toNat := by
    have h1 := Nat.div_add_mod x (2 ^ i)
    have h2 := Nat.div_add_mod y (2 ^ i)
    have h3 : x + y = 2 ^ i * (x / 2 ^ i + y / 2 ^ i) + (x % 2 ^ i + y % 2 ^ i) := by rw [Nat.mul_add]; omega
    rw [h3, Nat.mul_add_div hp]
    congr 1
    unfold cr
    generalize 2 ^ i = p at *
    by_cases h : p ≤ x % p + y % p
    · rw [decide_eq_true h]
      have : (x % p + y % p) / p = 1 := Nat.div_eq_of_lt_le (by omega) (by omega)
      exact this
    · rw [decide_eq_false h]
      exact Nat.div_eq_of_lt (by omega)
  rw [tb (x + y), e, tb x, tb y]
  generalize x / 2 ^ i = a
  generalize y / 2 ^ i = b
  have ha : a % 2 = 0 ∨ a % 2 = 1 := by omega
  have hb : b % 2 = 0 ∨ b % 2 = 1 := by omega
  rcases ha with ha | ha <;> rcases hb with hb | hb <;> cases cr x y i <;> simp [ha, hb] <;> omega
/-- What is borrowed at place i. -/
def bo (x y i : Nat) : Bool := decide (x % 2 ^ i < y % 2 ^ i)
theorem bo_zero (x y : Nat) : bo x y 0 = false := by simp [bo, Nat.mod_one]
theorem bo_step (x y i : Nat) : bo x y (i + 1) = decide ((x.testBit i).toNat < (y.testBit i).toNat + (bo x y i).toNat) := by
  have hp : 0 < 2 ^ i := Nat.pow_pos (by decide)
  have hx := Nat.mod_lt x hp
  have hy := Nat.mod_lt y hp
  unfold bo
  rw [mod_bit, mod_bit]
  generalize 2 ^ i = p at *
  generalize x % p = X at *
  generalize y % p = Y at *
  cases x.testBit i <;> cases y.testBit i <;> by_cases h : X < Y <;> simp [h] <;> omega
theorem take_bit {x y : Nat} (h : y ≤ x) (i : Nat) : (x - y).testBit i = decide (((x.testBit i).toNat + (y.testBit i).toNat + (bo x y i).toNat) % 2 = 1) := by
  obtain ⟨d, rfl⟩ : ∃ d, x = y + d := ⟨x - y, by omega⟩
  have hp : 0 < 2 ^ i := Nat.pow_pos (by decide)
  have hc : bo (y + d) y i = cr y d i := by
    have hx := Nat.mod_lt y hp
    have hy := Nat.mod_lt d hp
    unfold bo cr
    rw [Nat.add_mod]
    generalize 2 ^ i = p at *
    generalize y % p = Y at *
    generalize d % p = D at *
    by_cases h : p ≤ Y + D
    · have : (Y + D) % p = Y + D - p := by rw [Nat.mod_eq_sub_mod h, Nat.mod_eq_of_lt (by omega)]
      rw [this, decide_eq_true h, decide_eq_true (by omega)]
    · rw [Nat.mod_eq_of_lt (by omega), decide_eq_false h, decide_eq_false (by omega)]
  rw [hc, sum_bit, Nat.add_sub_cancel_left]
  cases y.testBit i <;> cases d.testBit i <;> cases cr y d i <;> rfl
theorem pre_step {g : Nat → Bool} {i : Nat} {b : Bool} (hb : b = g i) (k : Nat) (_ : k < 256) : (if k = i then b else (decide (k < i) && g k)) = (decide (k < i + 1) && g k) := by
  by_cases h : k = i
  · subst h; rw [if_pos rfl, hb, decide_eq_true (by omega)]; rfl
  · rw [if_neg h]
    congr 1
    rw [Bool.eq_iff_iff, decide_eq_true_eq, decide_eq_true_eq]
    omega
theorem pre_end {g : Nat → Bool} (k : Nat) (h : k < 256) : (decide (k < 256) && g k) = g k := by rw [decide_eq_true h]; rfl
theorem pre_zero {g : Nat → Bool} (k : Nat) (_ : k < 256) : (decide (k < 0) && g k) = false := by simp
theorem high_bit {v n k : Nat} (h : v < 2 ^ n) (hk : n ≤ k) : v.testBit k = false :=
  Nat.testBit_lt_two_pow (Nat.lt_of_lt_of_le h (Nat.pow_le_pow_right (by decide) hk))
theorem bits_lt {v : Nat} (h : v < 2 ^ 256) {n : Nat} (hb : ∀ k, n ≤ k → k < 256 → v.testBit k = false) : v < 2 ^ n := by
  refine Nat.lt_pow_two_of_testBit v fun k hk => ?_
  by_cases h2 : k < 256
  · exact hb k hk h2
  · exact high_bit h (by omega)
theorem bit_ge {v n k : Nat} (h : v.testBit k = true) (hk : n ≤ k) : 2 ^ n ≤ v :=
  Nat.le_trans (Nat.pow_le_pow_right (by decide) hk) (Nat.ge_two_pow_of_testBit h)
/-- Numbers whose bits above i are the same are told apart at i. -/
theorem half (x i : Nat) : x / 2 ^ i = 2 * (x / 2 ^ (i + 1)) + (x.testBit i).toNat := by
  rw [down x i, bp, tb]
  have : x / 2 ^ i % 2 = 0 ∨ x / 2 ^ i % 2 = 1 := by omega
  rcases this with h | h <;> rw [h] <;> rfl
theorem less_bit {x y i : Nat} (h : x / 2 ^ (i + 1) = y / 2 ^ (i + 1)) (hne : x.testBit i ≠ y.testBit i) : decide (x < y) = y.testBit i := by
  have hp : 0 < 2 ^ i := Nat.pow_pos (by decide)
  have h1 := half x i
  have h2 := half y i
  rw [h] at h1
  cases hx : x.testBit i <;> cases hy : y.testBit i <;> rw [hx] at h1 hne <;> rw [hy] at h2 hne
  · exact absurd rfl hne
  · rw [decide_eq_true_eq]
    exact Nat.lt_of_div_lt_div (c := 2 ^ i) (by rw [h1, h2]; simp)
  · rw [decide_eq_false_iff_not]
    intro h3
    have := Nat.div_le_div_right (c := 2 ^ i) (Nat.le_of_lt h3)
    rw [h1, h2] at this
    simp at this
    omega
  · exact absurd rfl hne
theorem same_bit {x y i : Nat} (h : x / 2 ^ (i + 1) = y / 2 ^ (i + 1)) (he : x.testBit i = y.testBit i) : x / 2 ^ i = y / 2 ^ i := by rw [half x i, half y i, h, he]
theorem blk32b {f f' : Nat → Bool} {k k' m : Nat} {b b' : Bool} (hk : k < 256) (hk' : k' < 256) (h : ∀ i, i < 256 → (if i = k' then b' else if i = k then b else f i) = f' i) : some (Blk.cells (((bl f).set k (.bool b)).set k' (.bool b')) m true) = some (.cells (bl f') m true) := by
  rw [bl_set hk, bl_set hk', bl_congr h]
/-- The bits of a number of 128, place by place in its halves. -/
def ofB (a i k : Nat) : Bool := (decide (k < i) || (decide (64 ≤ k) && decide (k < 64 + i))) && a.testBit k
theorem of_step {a i : Nat} {b b' : Bool} (hi : i < 64) (hb : b = a.testBit i) (hb' : b' = a.testBit (64 + i)) (k : Nat) (_ : k < 256) : (if k = 64 + i then b' else if k = i then b else ofB a i k) = ofB a (i + 1) k := by
  unfold ofB
  by_cases h : k = 64 + i
  · subst h
    rw [if_pos rfl, hb']
    simp
  · rw [if_neg h]
    by_cases h2 : k = i
    · subst h2; rw [if_pos rfl, hb]; simp
    · rw [if_neg h2]
      congr 1
      rw [Bool.eq_iff_iff]
      simp only [Bool.or_eq_true, Bool.and_eq_true, decide_eq_true_eq]
      omega
theorem of_end {a : Nat} (ha : a < 2 ^ 128) (k : Nat) (_ : k < 256) : ofB a 64 k = a.testBit k := by
  unfold ofB
  by_cases h : k < 128
  · have : (decide (k < 64) || (decide (64 ≤ k) && decide (k < 64 + 64))) = true := by
      simp only [Bool.or_eq_true, Bool.and_eq_true, decide_eq_true_eq]; omega
    rw [this]; rfl
  · rw [high_bit ha (by omega)]; simp
theorem twice_bit (v k : Nat) (hk : k < 256) : (decide (0 < k) && v.testBit (k - 1)) = (2 * v % 2 ^ 256).testBit k := by
  have e : 2 * v = 2 ^ 1 * v := by omega
  rw [Nat.testBit_mod_two_pow, decide_eq_true hk, e, Nat.testBit_two_pow_mul]
  rfl
theorem mod_bits (v k : Nat) (hk : k < 256) : (v % 2 ^ 256).testBit k = v.testBit k := by
  rw [Nat.testBit_mod_two_pow, decide_eq_true hk]; rfl
end Go.Proofs.Ytdfkcijholopoaa.Vm
namespace Go.Proofs.Ytdfkcijholopoaa.Vm
open Go Go.RowKit
set_option maxRecDepth 10000
set_option linter.unusedSimpArgs false
set_option linter.unusedVariables false

theorem vresult_one (s : St) (r : ResultVar) : vresult s [r] = vres s r := rfl


theorem p25 {a : Nat} (ha : a < 2 ^ 128) : Pure 25 [wd a] (b8 a) := by
  refine pure_of Try.func25 rfl Try.ntmps25 (by kernel_rfl) rfl (by simp) (plain_b8 a) ?_
  refine vc_seq ?_
  refine vc_go (by kernel_rfl) fun K hK => hK _ _ _ ?_
  clear hK K
  refine vc_seq ?_
  refine vc_go (by kernel_rfl) fun K hK => hK _ _ _ ?_
  clear hK K
  refine vc_seq ?_
  refine vc_seq ?_
  refine vc_go (by kernel_rfl) fun K hK => hK _ _ _ ?_
  clear hK K
  refine vc_block ?_
  refine vc_loop (fun n s => ∃ i : Nat, n = 64 - i ∧ i ≤ 64 ∧ IsSt [(1, pt 0), (2, pt 1), (3, pt 2), (4, .int .i64 (i : Nat))] [(0, .cells [u64 (a / 2 ^ 64), u64 (a % 2 ^ 64)] 24 true), (1, .cells bits0 32 true), (2, .cells (bl (ofB a i)) 32 true)] 3 s) 64 ?_ ?_
  · exact ⟨0, rfl, by decide, isSt ⟨rfl, rfl, rfl, rfl, trivial⟩ ⟨rfl, rfl, blk0 (f := ofB a 0) (fun k hk => by rw [show ofB a 0 k = (decide (k < 0 ∨ (64 ≤ k ∧ k < 64)) && a.testBit k) from (by unfold ofB; congr 1; rw [Bool.eq_iff_iff]; simp only [Bool.or_eq_true, Bool.and_eq_true, decide_eq_true_eq]), decide_eq_false (by omega)]; exact Bool.false_and _), trivial⟩ rfl⟩
  · rintro n s ⟨i, hn, hi, t, h, rfl⟩
    refine vc_seq ?_
    refine vc_seq ?_
    refine vc_go (by kernel_rfl) fun K hK => hK _ _ _ ?_
    clear hK K
    refine vc_cond rfl (fun c0 => ?_) (fun c0 => ?_)
    · -- cond 0 t6 true
      refine vc_skip ?_
      refine vc_seq ?_
      refine vc_block ?_
      refine vc_seq ?_
      have hlt : i < 64 := by
        simp only [decide_eq_true_eq] at c0
        omega
      have hw : IntKind.u64.wrap ((i : Nat) : Int) = ((i : Nat) : Int) := wrapN (by omega)
      have h64 : i ≤ IntKind.u64.bits := Nat.le_trans (Nat.le_of_lt hlt) (by decide)
      have hw2 : IntKind.i64.wrap (64 + ((i : Nat) : Int)) = ((64 + i : Nat) : Int) := by rw [wrapI (by omega) (by omega)]; omega
      have hb1 := bit_raw (a % 2 ^ 64) i
      have hb1' : (a % 2 ^ 64).testBit i = a.testBit i := by rw [Nat.testBit_mod_two_pow, decide_eq_true hlt]; rfl
      have hb2 := bit_raw (a / 2 ^ 64) i
      have hb2' : (a / 2 ^ 64).testBit i = a.testBit (64 + i) := by rw [Nat.testBit_div_two_pow, Nat.add_comm]
      refine vc_reg (by kernel_rfl) fun K hK => ?_
      refine run_n (z := false) 5 (fun K' hK' => hK' _ _ _ ?_) (by decide)
      clear hK' K'
      refine run_op (vex_shr (n := i) rfl rfl hw h64) rfl ?_
      refine run_n (z := false) 2 (fun K' hK' => hK' _ _ _ ?_) (by decide)
      clear hK' K'
      refine run_op (vex_ixa (j := i) rfl rfl rfl (show i < 256 by omega) rfl rfl) rfl ?_
      refine run_set (vex_st1 (k' := i) rfl (Nat.zero_add _ |>.trans (Nat.mul_one _)) rfl rfl rfl rfl rfl (by intro a h; cases h) (by rw [bl_length]; omega)) rfl (by decide) rfl ?_
      refine run_end (z := false) fun K' hK' => hK' _ _ _ (hK _ _ _ ?_)
      clear hK' K' hK K
      refine vc_reg (by kernel_rfl) fun K hK => ?_
      refine run_n (z := false) 6 (fun K' hK' => hK' _ _ _ ?_) (by decide)
      clear hK' K'
      refine run_op (vex_shr (n := i) rfl rfl hw h64) rfl ?_
      refine run_n (z := false) 2 (fun K' hK' => hK' _ _ _ ?_) (by decide)
      clear hK' K'
      refine run_op (vex_ixa (j := 64 + i) rfl rfl hw2 (show 64 + i < 256 by omega) rfl rfl) rfl ?_
      refine run_set (vex_st1 (k' := 64 + i) rfl (Nat.zero_add _ |>.trans (Nat.mul_one _)) rfl rfl rfl rfl rfl (by intro a h; cases h) (by rw [List.length_set, bl_length]; omega)) rfl (by decide) rfl ?_
      refine run_end (z := false) fun K' hK' => hK' _ _ _ (hK _ _ _ ?_)
      clear hK' K' hK K
      refine vc_go (by kernel_rfl) fun K hK => hK _ _ _ ?_
      clear hK K
      exact ⟨64 - (i + 1), by omega, i + 1, rfl, by omega, isSt ⟨rfl, rfl, rfl, ii (wrapI (by omega) (by omega)), trivial⟩ ⟨rfl, rfl, blk32b (by omega) (by omega) (fun k hk => of_step hlt (hb1.trans (hb1' ▸ rfl)) (hb2.trans (hb2' ▸ rfl)) k hk), trivial⟩ rfl⟩
    · -- cond 0 t6 false
      refine vc_exit ?_
      refine vc_seq ?_
      refine vc_reg (by kernel_rfl) fun K hK => ?_
      refine run_rd (vex_ld32 rfl rfl) rfl ?_
      refine run_set (vex_st32 rfl rfl bits0_length rfl) rfl (by decide) rfl ?_
      refine run_end (z := false) fun K' hK' => hK' _ _ _ (hK _ _ _ ?_)
      clear hK' K' hK K
      refine vc_ret ⟨.inr rfl, ?_⟩
      have hi64 : i = 64 := by
        simp only [decide_eq_false_iff_not] at c0
        omega
      subst hi64
      change vresult _ [.cell 2 32] = _
      rw [vresult_one]
      refine Eq.trans (vres_32 (m := 1) (f := ofB a 64) rfl rfl) ?_
      rw [b8_of (of_end ha)]

theorem p81 (v : Nat) : Pure 81 [b8 v] (b8 (2 * v % 2 ^ 256)) := by
  refine pure_of Try.func81 rfl Try.ntmps81 (by kernel_rfl) (by simp [plainL, plain_b8]) (by simp) (plain_b8 _) ?_
  refine vc_seq ?_
  refine vc_go (by kernel_rfl) fun K hK => hK _ _ _ ?_
  clear hK K
  refine vc_seq ?_
  refine vc_go (by kernel_rfl) fun K hK => hK _ _ _ ?_
  clear hK K
  refine vc_seq ?_
  refine vc_seq ?_
  refine vc_go (by kernel_rfl) fun K hK => hK _ _ _ ?_
  clear hK K
  refine vc_block ?_
  refine vc_loop (fun n s => ∃ i : Nat, n = 256 - i ∧ i ≤ 256 ∧ 0 < i ∧ IsSt [(1, pt 0), (2, pt 1), (3, pt 2), (4, .int .i64 (i : Nat))] [(0, .cells (bl (fun k => v.testBit k)) 32 true), (1, .cells bits0 32 true), (2, .cells (bl (fun k => decide (k < i) && (decide (0 < k) && v.testBit (k - 1)))) 32 true)] 3 s) 255 ?_ ?_
  · exact ⟨1, rfl, by decide, by decide, isSt ⟨rfl, rfl, rfl, rfl, trivial⟩ ⟨rfl, rfl, blk0 (fun k hk => by cases k <;> simp), trivial⟩ rfl⟩
  · rintro n s ⟨i, hn, hi, h0, t, h, rfl⟩
    refine vc_seq ?_
    refine vc_seq ?_
    refine vc_go (by kernel_rfl) fun K hK => hK _ _ _ ?_
    clear hK K
    refine vc_cond rfl (fun c0 => ?_) (fun c0 => ?_)
    · -- cond 0 t6 true
      refine vc_skip ?_
      refine vc_seq ?_
      refine vc_block ?_
      have hlt : i < 256 := by
        simp only [decide_eq_true_eq] at c0
        omega
      have hw : IntKind.i64.wrap (((i : Nat) : Int) - 1) = ((i - 1 : Nat) : Int) := by rw [wrapI (by omega) (by omega)]; omega
      refine vc_reg (by kernel_rfl) fun K hK => ?_
      refine run_n (z := false) 3 (fun K' hK' => hK' _ _ _ ?_) (by decide)
      clear hK' K'
      refine run_op (vex_ixa (j := i - 1) rfl rfl hw (show i - 1 < 256 by omega) rfl rfl) rfl ?_
      refine run_rd (vex_ld1 (k' := i - 1) rfl (Nat.zero_add _ |>.trans (Nat.mul_one _)) rfl rfl (bl_get _ (by omega))) rfl ?_
      refine run_op (vex_ixa (j := i) rfl rfl rfl (show i < 256 by omega) rfl rfl) rfl ?_
      refine run_set (vex_st1 (k' := i) rfl (Nat.zero_add _ |>.trans (Nat.mul_one _)) rfl rfl rfl rfl rfl (by intro a h; cases h) (by rw [bl_length]; omega)) rfl (by decide) rfl ?_
      refine run_end (z := false) fun K' hK' => hK' _ _ _ (hK _ _ _ ?_)
      clear hK' K' hK K
      refine vc_go (by kernel_rfl) fun K hK => hK _ _ _ ?_
      clear hK K
      exact ⟨256 - (i + 1), by omega, i + 1, rfl, by omega, by omega, isSt ⟨rfl, rfl, rfl, ii (wrapI (by omega) (by omega)), trivial⟩ ⟨rfl, rfl, blk32 hlt (fun k hk => pre_step (g := fun k => decide (0 < k) && v.testBit (k - 1)) (by rw [decide_eq_true h0]; rfl) k hk), trivial⟩ rfl⟩
    · -- cond 0 t6 false
      refine vc_exit ?_
      refine vc_seq ?_
      refine vc_reg (by kernel_rfl) fun K hK => ?_
      refine run_rd (vex_ld32 rfl rfl) rfl ?_
      refine run_set (vex_st32 rfl rfl bits0_length rfl) rfl (by decide) rfl ?_
      refine run_end (z := false) fun K' hK' => hK' _ _ _ (hK _ _ _ ?_)
      clear hK' K' hK K
      refine vc_ret ⟨.inr rfl, ?_⟩
      have hi64 : i = 256 := by
        simp only [decide_eq_false_iff_not] at c0
        omega
      subst hi64
      change vresult _ [.cell 2 32] = _
      rw [vresult_one]
      refine Eq.trans (vres_32 (m := 1) (f := fun k => decide (k < 256) && (decide (0 < k) && v.testBit (k - 1))) rfl rfl) ?_
      rw [b8_of fun k hk => (pre_end (g := fun k => decide (0 < k) && v.testBit (k - 1)) k hk).trans (twice_bit v k hk)]

theorem p32 {x y : Nat} (hx : x < 2 ^ 256) (hy : y < 2 ^ 256) : Pure 32 [b8 x, b8 y] (.bool (decide (x < y))) := by
  refine pure_of Try.func32 rfl Try.ntmps32 (by kernel_rfl) (by simp [plainL, plain_b8]) (by simp) rfl ?_
  refine vc_seq ?_
  refine vc_go (by kernel_rfl) fun K hK => hK _ _ _ ?_
  clear hK K
  refine vc_seq ?_
  refine vc_seq ?_
  refine vc_go (by kernel_rfl) fun K hK => hK _ _ _ ?_
  clear hK K
  refine vc_block ?_
  refine vc_loop (fun n s => ∃ a : Nat, n = a ∧ a ≤ 256 ∧ x / 2 ^ a = y / 2 ^ a ∧ IsSt [(2, pt 0), (3, pt 1), (4, .bool false), (5, .int .i64 ((a : Int) - 1))] [(0, .cells (bl (fun k => x.testBit k)) 32 true), (1, .cells (bl (fun k => y.testBit k)) 32 true)] 2 s) 256 ?_ ?_
  · exact ⟨256, rfl, by decide, by rw [Nat.div_eq_of_lt hx, Nat.div_eq_of_lt hy], isSt ⟨rfl, rfl, rfl, rfl, trivial⟩ ⟨rfl, rfl, trivial⟩ rfl⟩
  · rintro n s ⟨a, hn, ha, he, t, h, rfl⟩
    refine vc_seq ?_
    refine vc_seq ?_
    refine vc_go (by kernel_rfl) fun K hK => hK _ _ _ ?_
    clear hK K
    refine vc_cond rfl (fun c0 => ?_) (fun c0 => ?_)
    · -- cond 0 t7 true
      refine vc_skip ?_
      refine vc_seq ?_
      refine vc_block ?_
      refine vc_seq ?_
      have h0 : 0 < a := by
        simp only [decide_eq_true_eq] at c0
        omega
      obtain ⟨i, rfl⟩ : ∃ i, a = i + 1 := ⟨a - 1, by omega⟩
      refine refocus [(2, pt 0), (3, pt 1), (4, .bool false), (5, .int .i64 ((i : Nat)))] [(0, .cells (bl (fun k => x.testBit k)) 32 true), (1, .cells (bl (fun k => y.testBit k)) 32 true)] 2 ⟨rfl, rfl, rfl, ii (by omega), trivial⟩ ⟨rfl, rfl, trivial⟩ rfl fun t h => ?_
      refine vc_regD [] (by kernel_rfl) (by kernel_rfl) fun K hK => ?_
      refine runD_n (z := false) 1 (fun K' hK' => hK' _ _ _ _ ?_) (by decide)
      clear hK' K'
      refine runD_op (vex_ixa (j := i) rfl rfl rfl (show i < 256 by omega) rfl rfl) rfl ?_
      refine runD_rd (vex_ld1 (k' := i) rfl (Nat.zero_add _ |>.trans (Nat.mul_one _)) rfl rfl (bl_get _ (by omega))) rfl rfl ?_
      refine runD_n (z := false) 1 (fun K' hK' => hK' _ _ _ _ ?_) (by decide)
      clear hK' K'
      refine runD_op (vex_ixa (j := i) rfl rfl rfl (show i < 256 by omega) rfl rfl) rfl ?_
      refine runD_rd (vex_ld1 (k' := i) rfl (Nat.zero_add _ |>.trans (Nat.mul_one _)) rfl rfl (bl_get _ (by omega))) rfl rfl ?_
      refine runD_end (z := false) fun K' hK' => hK' _ _ _ _ (hK _ _ _ ?_)
      clear hK' K' hK K
      refine vc_cond rfl (fun c1 => ?_) (fun c1 => ?_)
      · -- cond 1 t16 true
        refine vc_seq ?_
        refine vc_reg (by kernel_rfl) fun K hK => ?_
        refine run_n (z := false) 1 (fun K' hK' => hK' _ _ _ ?_) (by decide)
        clear hK' K'
        refine run_op (vex_ixa (j := i) rfl rfl rfl (show i < 256 by omega) rfl rfl) rfl ?_
        refine run_rd (vex_ld1 (k' := i) rfl (Nat.zero_add _ |>.trans (Nat.mul_one _)) rfl rfl (bl_get _ (by omega))) rfl ?_
        refine run_end (z := false) fun K' hK' => hK' _ _ _ (hK _ _ _ ?_)
        clear hK' K' hK K
        refine vc_ret ⟨.inr rfl, ?_⟩
        rw [less_bit he (by simpa using c1)]
        rfl
      · -- cond 1 t16 false
        refine vc_skip ?_
        refine vc_go (by kernel_rfl) fun K hK => hK _ _ _ ?_
        clear hK K
        have hsame := same_bit he (by simpa using c1)
        exact ⟨i, by omega, i, rfl, by omega, hsame, isSt ⟨rfl, rfl, rfl, ii (wrapI (by omega) (by omega)), trivial⟩ ⟨rfl, rfl, trivial⟩ rfl⟩
    · -- cond 0 t7 false
      refine vc_exit ?_
      refine vc_seq ?_
      refine vc_go (by kernel_rfl) fun K hK => hK _ _ _ ?_
      clear hK K
      refine vc_ret ⟨.inr rfl, ?_⟩
      have ha0 : a = 0 := by
        simp only [decide_eq_false_iff_not] at c0
        omega
      subst ha0
      rw [Nat.pow_zero, Nat.div_one, Nat.div_one] at he
      rw [he, decide_eq_false (Nat.lt_irrefl y)]
      rfl
end Go.Proofs.Ytdfkcijholopoaa.Vm
