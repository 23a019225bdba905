/- Layer wide: a quotient and the rest. -/
import Derived.Test.YtdfkcijholopoaaWd
namespace Go.Proofs.Ytdfkcijholopoaa.Vm
open Go Go.RowKit
set_option maxRecDepth 10000
set_option linter.unusedSimpArgs false
set_option linter.unusedVariables false

theorem vex_shr {ev : Operand → Value} {h : Nat → Option Blk} {t t' : Nat} {x y : Operand} {k k' : IntKind} {a b : Int} {n : Nat} (hx : ev x = .int k a) (hy : ev y = .int k' b) (hb : b = (n : Int)) (hn : n ≤ k.bits) : vex ev h (.binOp .shr t x y t') = some (.val (.int k (a.fdiv (2 ^ n)))) := by
  subst hb
  simp only [vex, vbin, hx, hy, ibin]
  rw [if_neg (by omega), Int.toNat_natCast, Nat.min_eq_left hn]
  rfl
theorem vex_shl {ev : Operand → Value} {h : Nat → Option Blk} {t t' : Nat} {x y : Operand} {k k' : IntKind} {a b : Int} {n : Nat} (hx : ev x = .int k a) (hy : ev y = .int k' b) (hb : b = (n : Int)) (hn : n ≤ k.bits) : vex ev h (.binOp .shl t x y t') = some (.val (.int k (k.wrap (a * 2 ^ n)))) := by
  subst hb
  simp only [vex, vbin, hx, hy, ibin]
  rw [if_neg (by omega), Int.toNat_natCast, Nat.min_eq_left hn]
  rfl
theorem fdiv_nat (a n : Nat) : (a : Int).fdiv (2 ^ n) = ((a / 2 ^ n : Nat) : Int) := by
  have h2 : ((2 : Int) ^ n) = ((2 ^ n : Nat) : Int) := by simp
  rw [h2, Int.fdiv_eq_ediv_of_nonneg _ (Int.natCast_nonneg _)]
  rfl

/-- The quotient of the bits from p on, in its place. -/
def qp (v d p : Nat) : Nat := v / 2 ^ p / d * 2 ^ p
def rp (v d p : Nat) : Nat := v / 2 ^ p % d
def bp (v p : Nat) : Nat := v / 2 ^ p % 2
theorem bp_lt (v p : Nat) : bp v p < 2 := Nat.mod_lt _ (by decide)
theorem rp_lt {v d p : Nat} (hd : 0 < d) : rp v d p < d := Nat.mod_lt _ hd
theorem qp_lt {v d p : Nat} (hv : v < 2 ^ 224) : qp v d p < 2 ^ 224 := by
  refine Nat.lt_of_le_of_lt ?_ hv
  exact Nat.le_trans (Nat.mul_le_mul_right _ (Nat.div_le_self _ _)) (Nat.div_mul_le_self _ _)
theorem down (v p : Nat) : v / 2 ^ p = 2 * (v / 2 ^ (p + 1)) + bp v p := by
  rw [Nat.pow_succ, ← Nat.div_div_eq_div_mul, bp, Nat.div_add_mod]
theorem two_d {V d b : Nat} (hd : 0 < d) (hb : b < 2) : (2 * V + b) = d * (2 * (V / d)) + (2 * (V % d) + b) := by
  have := Nat.div_add_mod V d
  have e : d * (2 * (V / d)) = 2 * (d * (V / d)) := by rw [Nat.mul_left_comm]
  rw [e]
  omega
theorem over_one {v d p : Nat} (hd : 0 < d) (h : d ≤ 2 * rp v d (p + 1) + bp v p) : rp v d p = 2 * rp v d (p + 1) + bp v p - d ∧ qp v d p = qp v d (p + 1) + 2 ^ p := by
  have hb := bp_lt v p
  have hr : v / 2 ^ (p + 1) % d < d := Nat.mod_lt _ hd
  unfold rp qp at *
  rw [down v p, two_d (V := v / 2 ^ (p + 1)) hd hb]
  generalize v / 2 ^ (p + 1) % d = r at *
  generalize v / 2 ^ (p + 1) / d = q at *
  have e : d * (2 * q) + (2 * r + bp v p) = d * (2 * q + 1) + (2 * r + bp v p - d) := by
    rw [Nat.mul_add]; omega
  rw [e, Nat.mul_add_mod, Nat.mod_eq_of_lt (by omega), Nat.mul_add_div hd, Nat.div_eq_of_lt (by omega), Nat.add_zero, Nat.pow_succ]
  refine ⟨rfl, ?_⟩
  rw [Nat.add_mul, Nat.one_mul, Nat.mul_comm 2 q, Nat.mul_assoc, Nat.mul_comm 2]
theorem over_nil {v d p : Nat} (hd : 0 < d) (h : 2 * rp v d (p + 1) + bp v p < d) : rp v d p = 2 * rp v d (p + 1) + bp v p ∧ qp v d p = qp v d (p + 1) := by
  have hb := bp_lt v p
  unfold rp qp at *
  rw [down v p, two_d (V := v / 2 ^ (p + 1)) hd hb]
  generalize v / 2 ^ (p + 1) % d = r at *
  generalize v / 2 ^ (p + 1) / d = q at *
  rw [Nat.mul_add_mod, Nat.mod_eq_of_lt (by omega), Nat.mul_add_div hd, Nat.div_eq_of_lt (by omega), Nat.add_zero, Nat.pow_succ]
  refine ⟨rfl, ?_⟩
  rw [Nat.mul_comm 2 q, Nat.mul_assoc, Nat.mul_comm 2]
/-- The quarter's bits below are clear. -/
theorem qp_lb {v d i b : Nat} (hb : b < 32) : ∃ x, lb (qp v d (32 * i + b + 1)) i = 2 ^ (b + 1) * x := by
  unfold lb qp
  generalize v / 2 ^ (32 * i + b + 1) / d = q
  have e : q * 2 ^ (32 * i + b + 1) = 2 ^ (32 * i) * (2 ^ (b + 1) * q) := by
    rw [Nat.add_assoc, Nat.pow_add, Nat.mul_comm q, Nat.mul_assoc]
  have hp : 0 < 2 ^ (32 * i) := Nat.pow_pos (by decide)
  rw [e, Nat.mul_div_cancel_left _ hp]
  have e2 : 2 ^ 32 = 2 ^ (b + 1) * 2 ^ (32 - (b + 1)) := by rw [← Nat.pow_add]; exact congrArg (2 ^ ·) (by omega)
  rw [e2, Nat.mul_mod_mul_left]
  exact ⟨_, rfl⟩
theorem set_bit {v d i b : Nat} (hb : b < 32) : lb (qp v d (32 * i + b + 1)) i ||| 2 ^ b = lb (qp v d (32 * i + b + 1)) i + 2 ^ b ∧ lb (qp v d (32 * i + b + 1)) i + 2 ^ b < 2 ^ 32 := by
  obtain ⟨x, hx⟩ := qp_lb (v := v) (d := d) (i := i) hb
  have hlt := lb_lt (qp v d (32 * i + b + 1)) i
  rw [hx] at hlt ⊢
  have h1 : 2 ^ b < 2 ^ (b + 1) := Nat.pow_lt_pow_right (by decide) (by omega)
  refine ⟨(Nat.two_pow_add_eq_or_of_lt h1 x).symm, ?_⟩
  have e2 : 2 ^ 32 = 2 ^ (b + 1) * 2 ^ (32 - (b + 1)) := by rw [← Nat.pow_add]; exact congrArg (2 ^ ·) (by omega)
  rw [e2] at hlt ⊢
  have h3 : x < 2 ^ (32 - (b + 1)) := Nat.lt_of_mul_lt_mul_left hlt
  have h4 : 2 ^ (b + 1) * (x + 1) ≤ 2 ^ (b + 1) * 2 ^ (32 - (b + 1)) := Nat.mul_le_mul_left _ h3
  rw [Nat.mul_add, Nat.mul_one] at h4
  exact Nat.lt_of_lt_of_le (Nat.add_lt_add_left h1 _) h4
theorem put_bit {v d i b : Nat} : put (qp v d (32 * i + b + 1)) i (lb (qp v d (32 * i + b + 1)) i + 2 ^ b) = qp v d (32 * i + b + 1) + 2 ^ (32 * i + b) := by
  have h1 := put_eq (qp v d (32 * i + b + 1)) i (lb (qp v d (32 * i + b + 1)) i + 2 ^ b)
  rw [Nat.add_mul] at h1
  have h2 : 2 ^ b * 2 ^ (32 * i) = 2 ^ (32 * i + b) := by rw [← Nat.pow_add, Nat.add_comm]
  rw [h2] at h1
  generalize lb (qp v d (32 * i + b + 1)) i * 2 ^ (32 * i) = a at *
  omega
theorem bit_of {v i b : Nat} (hb : b < 32) : lb v i / 2 ^ b % 2 = bp v (32 * i + b) := by
  unfold lb bp
  have e2 : 2 ^ 32 = 2 ^ b * 2 ^ (32 - b) := by rw [← Nat.pow_add]; exact congrArg (2 ^ ·) (by omega)
  have e3 : 2 ^ (32 - b) = 2 * 2 ^ (31 - b) := by
    rw [show 32 - b = (31 - b) + 1 by omega, Nat.pow_succ, Nat.mul_comm]
  rw [e2, Nat.mod_mul_right_div_self, e3, Nat.mod_mul_right_mod, Nat.div_div_eq_div_mul, ← Nat.pow_add]
theorem raw_bit {x n : Nat} (hx : x < 2 ^ 32) : IntKind.u64.wrap ((BitVec.ofInt IntKind.u64.bits ((x : Int).fdiv (2 ^ n)) &&& BitVec.ofInt IntKind.u64.bits 1).toNat : Int) = ((x / 2 ^ n % 2 : Nat) : Int) := by
  rw [fdiv_nat]
  have h := and_nat (x / 2 ^ n) 1 (Nat.lt_of_le_of_lt (Nat.div_le_self _ _) (by omega)) (by decide)
  rw [Nat.and_one_is_mod] at h
  exact h
theorem raw_rest {R b : Nat} (hR : R < 2 ^ 64) (hb : b < 2) : IntKind.u64.wrap ((BitVec.ofInt IntKind.u64.bits (IntKind.u64.wrap ((R : Int) * 2 ^ (min (1 : Int).toNat IntKind.u64.bits))) ||| BitVec.ofInt IntKind.u64.bits (b : Int)).toNat : Int) = ((2 * R % 2 ^ 64 + b : Nat) : Int) := by
  have h : IntKind.u64.wrap ((R : Int) * 2 ^ (min (1 : Int).toNat IntKind.u64.bits)) = ((2 * R % 2 ^ 64 : Nat) : Int) := by
    have : min (1 : Int).toNat IntKind.u64.bits = 1 := by decide
    rw [this, wrap64]
    omega
  rw [h, or_nat _ _ (by omega) (by omega)]
  have e : 2 * R % 2 ^ 64 = 2 ^ 1 * (R % 2 ^ 63) := by omega
  rw [e, Nat.two_pow_add_eq_or_of_lt (by omega)]
theorem raw_top {R : Nat} : ((R : Int).fdiv (2 ^ (min (63 : Int).toNat IntKind.u64.bits)) == 1) = decide (R / 2 ^ 63 = 1) := by
  have := shr_nat R 63 (by decide)
  rw [show ((63 : Nat) : Int) = 63 from rfl] at this
  rw [this]
  rw [Bool.eq_iff_iff]
  simp only [beq_iff_eq, decide_eq_true_eq]
  omega
theorem bb {a b : Bool} (h : a = b) : Value.bool a = .bool b := by rw [h]
theorem bk {m : Nat} {A B : Nat} (h : A = B) : some (Blk.cells (limbs A) m true) = some (.cells (limbs B) m true) := by rw [h]


theorem raw_1b {b : Nat} (hb : b < 32) : IntKind.u64.wrap (1 * 2 ^ b) = ((2 ^ b : Nat) : Int) := by
  have h : 2 ^ b < 2 ^ 32 := Nat.pow_lt_pow_right (by decide) hb
  have e : (1 * 2 ^ b : Int) = ((2 ^ b : Nat) : Int) := by simp
  rw [e]
  exact wrapN (by omega)
theorem p78 (v d : Nat) (hv : v < 2 ^ 224) (hd : 0 < d) (hd' : d < 2 ^ 64) : Pure 78 [q7 v, u64 d] (.tuple #[q7 (v / d), u64 (v % d)]) := by
  refine pure_of Try.func78 rfl Try.ntmps78 (by kernel_rfl) rfl (by simp) rfl ?_
  refine vc_seq ?_
  refine vc_go (by kernel_rfl) fun K hK => hK _ _ _ ?_
  clear hK K
  refine vc_seq ?_
  refine vc_go (by kernel_rfl) fun K hK => hK _ _ _ ?_
  clear hK K
  refine vc_seq ?_
  refine vc_go (by kernel_rfl) fun K hK => hK _ _ _ ?_
  clear hK K
  refine vc_seq ?_
  refine vc_seq ?_
  refine vc_go (by kernel_rfl) fun K hK => hK _ _ _ ?_
  clear hK K
  refine vc_block ?_
  refine vc_loop (fun n s => ∃ a p : Nat, n = a ∧ a ≤ 7 ∧ p = 32 * a ∧ IsSt [(1, u64 d), (2, pt 0), (4, pt 1), (6, pt 2), (7, u64 (rp v d p)), (8, .int .i64 ((a : Int) - 1))] [(0, .cells (limbs v) 116 true), (1, .cells (limbs 0) 116 true), (2, .cells (limbs (qp v d p)) 116 true)] 3 s) 7 ?_ ?_
  · exact ⟨7, 224, rfl, by decide, rfl, isSt ⟨rfl, rfl, rfl, rfl, iu (by rw [rp, Nat.div_eq_of_lt hv, Nat.zero_mod]; rfl), rfl, trivial⟩ ⟨rfl, rfl, bk (A := 0) (by rw [qp, Nat.div_eq_of_lt hv, Nat.zero_div, Nat.zero_mul]), trivial⟩ rfl⟩
  · rintro n s ⟨a, p, hn, ha, hp, t, h, rfl⟩
    refine vc_seq ?_
    refine vc_seq ?_
    refine vc_go (by kernel_rfl) fun K hK => hK _ _ _ ?_
    clear hK K
    refine vc_cond rfl (fun c0 => ?_) (fun c0 => ?_)
    · -- cond 0 t12 true
      refine vc_skip ?_
      refine vc_seq ?_
      refine vc_block ?_
      refine vc_seq ?_
      have h0 : 0 < a := by
        simp only [decide_eq_true_eq] at c0
        omega
      obtain ⟨i, rfl⟩ : ∃ i, a = i + 1 := ⟨a - 1, by omega⟩
      refine refocus [(1, u64 d), (2, pt 0), (4, pt 1), (6, pt 2), (7, u64 (rp v d p)), (8, .int .i64 ((i : Nat)))] [(0, .cells (limbs v) 116 true), (1, .cells (limbs 0) 116 true), (2, .cells (limbs (qp v d p)) 116 true)] 3 ⟨rfl, rfl, rfl, rfl, rfl, ii (by omega), trivial⟩ ⟨rfl, rfl, rfl, trivial⟩ rfl fun t h => ?_
      refine vc_go (by kernel_rfl) fun K hK => hK _ _ _ ?_
      clear hK K
      refine vc_block ?_
      refine vc_loop (fun n s => ∃ b p : Nat, n = b ∧ b ≤ 32 ∧ p = 32 * i + b ∧ IsSt [(1, u64 d), (2, pt 0), (4, pt 1), (6, pt 2), (7, u64 (rp v d p)), (8, .int .i64 ((i : Nat))), (9, .int .i64 ((b : Int) - 1))] [(0, .cells (limbs v) 116 true), (1, .cells (limbs 0) 116 true), (2, .cells (limbs (qp v d p)) 116 true)] 3 s) 32 ?_ ?_
      · exact ⟨32, p, rfl, by decide, by omega, isSt ⟨rfl, rfl, rfl, rfl, rfl, rfl, rfl, trivial⟩ ⟨rfl, rfl, rfl, trivial⟩ rfl⟩
      · clear hp
        rintro n s ⟨b, p, hn, hb, hp, t, h, rfl⟩
        refine vc_seq ?_
        refine vc_seq ?_
        refine vc_go (by kernel_rfl) fun K hK => hK _ _ _ ?_
        clear hK K
        refine vc_cond rfl (fun c1 => ?_) (fun c1 => ?_)
        · -- cond 1 t16 true
          refine vc_skip ?_
          refine vc_seq ?_
          refine vc_block ?_
          refine vc_seq ?_
          have h1 : 0 < b := by
            simp only [decide_eq_true_eq] at c1
            omega
          obtain ⟨b, rfl⟩ : ∃ j, b = j + 1 := ⟨b - 1, by omega⟩
          have hp' : p = (32 * i + b + 1) := hp
          subst hp'
          clear hp
          have hR : rp v d (32 * i + b + 1) < d := rp_lt hd
          have hB := bp_lt v (32 * i + b)
          have hb32 : b < 32 := by omega
          refine refocus [(1, u64 d), (2, pt 0), (4, pt 1), (6, pt 2), (7, u64 (rp v d (32 * i + b + 1))), (8, .int .i64 ((i : Nat))), (9, .int .i64 ((b : Nat)))] [(0, .cells (limbs v) 116 true), (1, .cells (limbs 0) 116 true), (2, .cells (limbs (qp v d (32 * i + b + 1))) 116 true)] 3 ⟨rfl, rfl, rfl, rfl, rfl, rfl, ii (by omega), trivial⟩ ⟨rfl, rfl, rfl, trivial⟩ rfl fun t h => ?_
          refine vc_go (by kernel_rfl) fun K hK => hK _ _ _ ?_
          clear hK K
          refine vc_seq ?_
          refine vc_reg (by kernel_rfl) fun K hK => ?_
          refine run_n (z := false) 3 (fun K' hK' => hK' _ _ _ ?_) (by decide)
          clear hK' K'
          refine run_op (vex_ixa (j := i) rfl rfl rfl (by omega) rfl rfl) rfl ?_
          refine run_rd (vex_ld1 (k' := i) rfl (Nat.zero_add _ |>.trans (Nat.mul_one _)) rfl rfl (limbs_get v (by omega))) rfl ?_
          refine run_n (z := false) 1 (fun K' hK' => hK' _ _ _ ?_) (by decide)
          clear hK' K'
          refine run_op (vex_shr (n := b) rfl rfl rfl (Nat.le_trans (Nat.le_of_lt hb32) (by decide))) rfl ?_
          refine run_end (z := false) fun K' hK' => hK' _ _ _ (hK _ _ _ ?_)
          clear hK' K' hK K
          have hbit : IntKind.u64.wrap ((BitVec.ofInt IntKind.u64.bits (((lb v i : Nat) : Int).fdiv (2 ^ b)) &&& BitVec.ofInt IntKind.u64.bits 1).toNat : Int) = ((bp v (32 * i + b) : Nat) : Int) := by rw [raw_bit (lb_lt _ _), bit_of hb32]
          refine refocus [(1, u64 d), (2, pt 0), (4, pt 1), (6, pt 2), (7, u64 (2 * rp v d (32 * i + b + 1) % 2 ^ 64 + bp v (32 * i + b))), (8, .int .i64 ((i : Nat))), (9, .int .i64 ((b : Nat))), (10, .bool (decide (rp v d (32 * i + b + 1) / 2 ^ 63 = 1)))] [(0, .cells (limbs v) 116 true), (1, .cells (limbs 0) 116 true), (2, .cells (limbs (qp v d (32 * i + b + 1))) 116 true)] 3 ⟨rfl, rfl, rfl, rfl, iu (by rw [hbit, raw_rest (by omega) hB]), rfl, rfl, bb raw_top, trivial⟩ ⟨rfl, rfl, rfl, trivial⟩ rfl fun t h => ?_
          refine vc_seq ?_
          refine vc_reg (by kernel_rfl) fun K hK => ?_
          refine run_n (z := false) 2 (fun K' hK' => hK' _ _ _ ?_) (by decide)
          clear hK' K'
          refine vgo_case 32 rfl (fun g0 => ?_) (fun g0 => ?_)
          · -- split 0 at 11,2 true
            refine run_end (z := false) fun K' hK' => hK' _ _ _ (hK _ _ _ ?_)
            clear hK' K' hK K
            refine vc_cond (t := true) rfl (fun _ => ?_) (fun h => by cases h)
            refine vc_seq ?_
            refine vc_go (by kernel_rfl) fun K hK => hK _ _ _ ?_
            clear hK K
            refine vc_regD [] (by kernel_rfl) (by kernel_rfl) fun K hK => ?_
            refine runD_n (z := false) 1 (fun K' hK' => hK' _ _ _ _ ?_) (by decide)
            clear hK' K'
            refine runD_op (vex_ixa (j := i) rfl rfl rfl (by omega) rfl rfl) rfl ?_
            refine runD_rd (vex_ld1 (k' := i) rfl (Nat.zero_add _ |>.trans (Nat.mul_one _)) rfl rfl (limbs_get _ (by omega))) rfl rfl ?_
            refine runD_n (z := false) 1 (fun K' hK' => hK' _ _ _ _ ?_) (by decide)
            clear hK' K'
            refine runD_op (vex_shl (n := b) rfl rfl rfl (Nat.le_trans (Nat.le_of_lt hb32) (by decide))) rfl ?_
            refine runD_n (z := false) 1 (fun K' hK' => hK' _ _ _ _ ?_) (by decide)
            clear hK' K'
            refine runD_op (vex_ixa (j := i) rfl rfl rfl (by omega) rfl rfl) rfl ?_
            refine runD_set (vex_st1 (k' := i) rfl (Nat.zero_add _ |>.trans (Nat.mul_one _)) rfl rfl rfl rfl rfl (by intro a h; cases h) (show i < 7 by omega)) rfl (by decide) rfl rfl ?_
            refine runD_end (z := false) fun K' hK' => hK' _ _ _ _ (hK _ _ _ ?_)
            clear hK' K' hK K
            refine vc_go (by kernel_rfl) fun K hK => hK _ _ _ ?_
            clear hK K
            simp only [decide_eq_true_eq, decide_eq_false_iff_not] at *
            obtain ⟨ho1, ho2⟩ := over_one (v := v) (d := d) (p := 32 * i + b) hd (by omega)
            obtain ⟨hs1, hs2⟩ := set_bit (v := v) (d := d) (i := i) hb32
            have hblk : IntKind.u64.wrap ((BitVec.ofInt IntKind.u64.bits ((lb (qp v d (32 * i + b + 1)) i : Nat) : Int) ||| BitVec.ofInt IntKind.u64.bits (IntKind.u64.wrap (1 * 2 ^ b))).toNat : Int) = ((lb (qp v d (32 * i + b + 1)) i + 2 ^ b : Nat) : Int) := by
              rw [raw_1b hb32, or_nat _ _ (Nat.lt_trans (lb_lt _ _) (by decide)) (Nat.lt_trans (Nat.lt_of_le_of_lt (Nat.le_add_left _ _) hs2) (by decide)), hs1]
            have hfin := (blk116 (m := 116) hblk (show i < 7 by omega) hs2).trans (bk (put_bit.trans ho2.symm))
            exact ⟨b, by omega, b, 32 * i + b, rfl, by omega, rfl, isSt ⟨rfl, rfl, rfl, rfl, iu (by rw [ho1, wrap64]; omega), rfl, ii (wrapI (by omega) (by omega)), trivial⟩ ⟨rfl, rfl, hfin, trivial⟩ rfl⟩
          · -- split 0 at 11,2 false
            refine run_end (z := false) fun K' hK' => hK' _ _ _ (hK _ _ _ ?_)
            clear hK' K' hK K
            refine vc_cond rfl (fun c3 => ?_) (fun c3 => ?_)
            · -- cond 3 t36 true
              refine vc_seq ?_
              refine vc_go (by kernel_rfl) fun K hK => hK _ _ _ ?_
              clear hK K
              refine vc_regD [] (by kernel_rfl) (by kernel_rfl) fun K hK => ?_
              refine runD_n (z := false) 1 (fun K' hK' => hK' _ _ _ _ ?_) (by decide)
              clear hK' K'
              refine runD_op (vex_ixa (j := i) rfl rfl rfl (by omega) rfl rfl) rfl ?_
              refine runD_rd (vex_ld1 (k' := i) rfl (Nat.zero_add _ |>.trans (Nat.mul_one _)) rfl rfl (limbs_get _ (by omega))) rfl rfl ?_
              refine runD_n (z := false) 1 (fun K' hK' => hK' _ _ _ _ ?_) (by decide)
              clear hK' K'
              refine runD_op (vex_shl (n := b) rfl rfl rfl (Nat.le_trans (Nat.le_of_lt hb32) (by decide))) rfl ?_
              refine runD_n (z := false) 1 (fun K' hK' => hK' _ _ _ _ ?_) (by decide)
              clear hK' K'
              refine runD_op (vex_ixa (j := i) rfl rfl rfl (by omega) rfl rfl) rfl ?_
              refine runD_set (vex_st1 (k' := i) rfl (Nat.zero_add _ |>.trans (Nat.mul_one _)) rfl rfl rfl rfl rfl (by intro a h; cases h) (show i < 7 by omega)) rfl (by decide) rfl rfl ?_
              refine runD_end (z := false) fun K' hK' => hK' _ _ _ _ (hK _ _ _ ?_)
              clear hK' K' hK K
              refine vc_go (by kernel_rfl) fun K hK => hK _ _ _ ?_
              clear hK K
              simp only [decide_eq_true_eq, decide_eq_false_iff_not] at *
              obtain ⟨ho1, ho2⟩ := over_one (v := v) (d := d) (p := 32 * i + b) hd (by omega)
              obtain ⟨hs1, hs2⟩ := set_bit (v := v) (d := d) (i := i) hb32
              have hblk : IntKind.u64.wrap ((BitVec.ofInt IntKind.u64.bits ((lb (qp v d (32 * i + b + 1)) i : Nat) : Int) ||| BitVec.ofInt IntKind.u64.bits (IntKind.u64.wrap (1 * 2 ^ b))).toNat : Int) = ((lb (qp v d (32 * i + b + 1)) i + 2 ^ b : Nat) : Int) := by
                rw [raw_1b hb32, or_nat _ _ (Nat.lt_trans (lb_lt _ _) (by decide)) (Nat.lt_trans (Nat.lt_of_le_of_lt (Nat.le_add_left _ _) hs2) (by decide)), hs1]
              have hfin := (blk116 (m := 116) hblk (show i < 7 by omega) hs2).trans (bk (put_bit.trans ho2.symm))
              exact ⟨b, by omega, b, 32 * i + b, rfl, by omega, rfl, isSt ⟨rfl, rfl, rfl, rfl, iu (by rw [ho1, wrap64]; omega), rfl, ii (wrapI (by omega) (by omega)), trivial⟩ ⟨rfl, rfl, hfin, trivial⟩ rfl⟩
            · -- cond 3 t36 false
              refine vc_skip ?_
              refine vc_go (by kernel_rfl) fun K hK => hK _ _ _ ?_
              clear hK K
              simp only [decide_eq_true_eq, decide_eq_false_iff_not] at *
              obtain ⟨ho1, ho2⟩ := over_nil (v := v) (d := d) (p := 32 * i + b) hd (by omega)
              exact ⟨b, by omega, b, 32 * i + b, rfl, by omega, rfl, isSt ⟨rfl, rfl, rfl, rfl, iu (by rw [ho1]; omega), rfl, ii (wrapI (by omega) (by omega)), trivial⟩ ⟨rfl, rfl, bk ho2.symm, trivial⟩ rfl⟩
        · -- cond 1 t16 false
          refine vc_exit ?_
          refine vc_go (by kernel_rfl) fun K hK => hK _ _ _ ?_
          clear hK K
          have hb0 : b = 0 := by
            simp only [decide_eq_false_iff_not] at c1
            omega
          exact ⟨i, by omega, i, p, rfl, by omega, by omega, isSt ⟨rfl, rfl, rfl, rfl, rfl, ii (wrapI (by omega) (by omega)), trivial⟩ ⟨rfl, rfl, rfl, trivial⟩ rfl⟩
    · -- cond 0 t12 false
      refine vc_exit ?_
      refine vc_seq ?_
      refine vc_go (by kernel_rfl) fun K hK => hK _ _ _ ?_
      clear hK K
      refine vc_ret ⟨.inr rfl, ?_⟩
      have ha0 : a = 0 := by
        simp only [decide_eq_false_iff_not] at c0
        omega
      subst ha0
      have hp0 : p = 0 := hp
      subst hp0
      have e1 : qp v d 0 = v / d := by rw [qp, Nat.pow_zero, Nat.div_one, Nat.mul_one]
      have e2 : rp v d 0 = v % d := by rw [rp, Nat.pow_zero, Nat.div_one]
      rw [← e1, ← e2]
      rfl
end Go.Proofs.Ytdfkcijholopoaa.Vm
