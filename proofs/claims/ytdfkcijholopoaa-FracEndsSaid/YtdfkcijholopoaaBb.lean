/- Bits of sums, of differences, of halves. -/
import Derived.Test.YtdfkcijholopoaaBa
namespace Go.Proofs.Ytdfkcijholopoaa.Vm
open Go Go.RowKit
set_option maxRecDepth 10000
set_option linter.unusedSimpArgs false

theorem tb (x i : Nat) : x.testBit i = decide (x / 2 ^ i % 2 = 1) := Nat.testBit_eq_decide_div_mod_eq
theorem mod_bit (x i : Nat) : x % 2 ^ (i + 1) = x % 2 ^ i + 2 ^ i * (x.testBit i).toNat := by
  rw [Nat.pow_succ, Nat.mod_mul, tb]
  have h : x / 2 ^ i % 2 = 0 ∨ x / 2 ^ i % 2 = 1 := by omega
  rcases h with h | h <;> rw [h] <;> rfl
/-- What is carried into place i. -/
def cr (x y i : Nat) : Bool := decide (2 ^ i ≤ x % 2 ^ i + y % 2 ^ i)
theorem cr_zero (x y : Nat) : cr x y 0 = false := by simp [cr, Nat.mod_one]
theorem cr_step (x y i : Nat) : cr x y (i + 1) = decide (2 ≤ (x.testBit i).toNat + (y.testBit i).toNat + (cr x y i).toNat) := by
  have hp : 0 < 2 ^ i := Nat.pow_pos (by decide)
  have hx := Nat.mod_lt x hp
  have hy := Nat.mod_lt y hp
  unfold cr
  rw [mod_bit, mod_bit, Nat.pow_succ]
  generalize 2 ^ i = p at *
  generalize x % p = X at *
  generalize y % p = Y at *
  cases x.testBit i <;> cases y.testBit i <;> by_cases h : p ≤ X + Y <;> simp [h] <;> omega
theorem sum_bit (x y i : Nat) : (x + y).testBit i = decide (((x.testBit i).toNat + (y.testBit i).toNat + (cr x y i).toNat) % 2 = 1) := by
  have hp : 0 < 2 ^ i := Nat.pow_pos (by decide)
  have hx := Nat.mod_lt x hp
  have hy := Nat.mod_lt y hp
  have e : (x + y) / 2 ^ i = x / 2 ^ i + y / 2 ^ i + (cr x y i).toNat := by
    have h1 := Nat.div_add_mod x (2 ^ i)
    have h2 := Nat.div_add_mod y (2 ^ i)
    have h3 : x + y = 2 ^ i * (x / 2 ^ i + y / 2 ^ i) + (x % 2 ^ i + y % 2 ^ i) := by rw [Nat.mul_add]; omega
    rw [h3, Nat.mul_add_div hp]
    congr 1
    unfold cr
    generalize 2 ^ i = p at *
    by_cases h : p ≤ x % p + y % p
    · rw [decide_eq_true h]
      have : (x % p + y % p) / p = 1 := Nat.div_eq_of_lt_le (by omega) (by omega)
      exact this
    · rw [decide_eq_false h]
      exact Nat.div_eq_of_lt (by omega)
  rw [tb (x + y), e, tb x, tb y]
  generalize x / 2 ^ i = a
  generalize y / 2 ^ i = b
  have ha : a % 2 = 0 ∨ a % 2 = 1 := by omega
  have hb : b % 2 = 0 ∨ b % 2 = 1 := by omega
  rcases ha with ha | ha <;> rcases hb with hb | hb <;> cases cr x y i <;> simp [ha, hb] <;> omega
/-- What is borrowed at place i. -/
def bo (x y i : Nat) : Bool := decide (x % 2 ^ i < y % 2 ^ i)
theorem bo_zero (x y : Nat) : bo x y 0 = false := by simp [bo, Nat.mod_one]
theorem bo_step (x y i : Nat) : bo x y (i + 1) = decide ((x.testBit i).toNat < (y.testBit i).toNat + (bo x y i).toNat) := by
  have hp : 0 < 2 ^ i := Nat.pow_pos (by decide)
  have hx := Nat.mod_lt x hp
  have hy := Nat.mod_lt y hp
  unfold bo
  rw [mod_bit, mod_bit]
  generalize 2 ^ i = p at *
  generalize x % p = X at *
  generalize y % p = Y at *
  cases x.testBit i <;> cases y.testBit i <;> by_cases h : X < Y <;> simp [h] <;> omega
theorem take_bit {x y : Nat} (h : y ≤ x) (i : Nat) : (x - y).testBit i = decide (((x.testBit i).toNat + (y.testBit i).toNat + (bo x y i).toNat) % 2 = 1) := by
  obtain ⟨d, rfl⟩ : ∃ d, x = y + d := ⟨x - y, by omega⟩
  have hp : 0 < 2 ^ i := Nat.pow_pos (by decide)
  have hc : bo (y + d) y i = cr y d i := by
    have hx := Nat.mod_lt y hp
    have hy := Nat.mod_lt d hp
    unfold bo cr
    rw [Nat.add_mod]
    generalize 2 ^ i = p at *
    generalize y % p = Y at *
    generalize d % p = D at *
    by_cases h : p ≤ Y + D
    · have : (Y + D) % p = Y + D - p := by rw [Nat.mod_eq_sub_mod h, Nat.mod_eq_of_lt (by omega)]
      rw [this, decide_eq_true h, decide_eq_true (by omega)]
    · rw [Nat.mod_eq_of_lt (by omega), decide_eq_false h, decide_eq_false (by omega)]
  rw [hc, sum_bit, Nat.add_sub_cancel_left]
  cases y.testBit i <;> cases d.testBit i <;> cases cr y d i <;> rfl
theorem pre_step {g : Nat → Bool} {i : Nat} {b : Bool} (hb : b = g i) (k : Nat) (_ : k < 256) : (if k = i then b else (decide (k < i) && g k)) = (decide (k < i + 1) && g k) := by
  by_cases h : k = i
  · subst h; rw [if_pos rfl, hb, decide_eq_true (by omega)]; rfl
  · rw [if_neg h]
    congr 1
    rw [Bool.eq_iff_iff, decide_eq_true_eq, decide_eq_true_eq]
    omega
theorem pre_end {g : Nat → Bool} (k : Nat) (h : k < 256) : (decide (k < 256) && g k) = g k := by rw [decide_eq_true h]; rfl
theorem pre_zero {g : Nat → Bool} (k : Nat) (_ : k < 256) : (decide (k < 0) && g k) = false := by simp
theorem high_bit {v n k : Nat} (h : v < 2 ^ n) (hk : n ≤ k) : v.testBit k = false :=
  Nat.testBit_lt_two_pow (Nat.lt_of_lt_of_le h (Nat.pow_le_pow_right (by decide) hk))
theorem bits_lt {v : Nat} (h : v < 2 ^ 256) {n : Nat} (hb : ∀ k, n ≤ k → k < 256 → v.testBit k = false) : v < 2 ^ n := by
  refine Nat.lt_pow_two_of_testBit v fun k hk => ?_
  by_cases h2 : k < 256
  · exact hb k hk h2
  · exact high_bit h (by omega)
theorem bit_ge {v n k : Nat} (h : v.testBit k = true) (hk : n ≤ k) : 2 ^ n ≤ v :=
  Nat.le_trans (Nat.pow_le_pow_right (by decide) hk) (Nat.ge_two_pow_of_testBit h)
/-- Numbers whose bits above i are the same are told apart at i. -/
theorem half (x i : Nat) : x / 2 ^ i = 2 * (x / 2 ^ (i + 1)) + (x.testBit i).toNat := by
  rw [down x i, bp, tb]
  have : x / 2 ^ i % 2 = 0 ∨ x / 2 ^ i % 2 = 1 := by omega
  rcases this with h | h <;> rw [h] <;> rfl
theorem less_bit {x y i : Nat} (h : x / 2 ^ (i + 1) = y / 2 ^ (i + 1)) (hne : x.testBit i ≠ y.testBit i) : decide (x < y) = y.testBit i := by
  have hp : 0 < 2 ^ i := Nat.pow_pos (by decide)
  have h1 := half x i
  have h2 := half y i
  rw [h] at h1
  cases hx : x.testBit i <;> cases hy : y.testBit i <;> rw [hx] at h1 hne <;> rw [hy] at h2 hne
  · exact absurd rfl hne
  · rw [decide_eq_true_eq]
    exact Nat.lt_of_div_lt_div (c := 2 ^ i) (by rw [h1, h2]; simp)
  · rw [decide_eq_false_iff_not]
    intro h3
    have := Nat.div_le_div_right (c := 2 ^ i) (Nat.le_of_lt h3)
    rw [h1, h2] at this
    simp at this
    omega
  · exact absurd rfl hne
theorem same_bit {x y i : Nat} (h : x / 2 ^ (i + 1) = y / 2 ^ (i + 1)) (he : x.testBit i = y.testBit i) : x / 2 ^ i = y / 2 ^ i := by rw [half x i, half y i, h, he]
theorem blk32b {f f' : Nat → Bool} {k k' m : Nat} {b b' : Bool} (hk : k < 256) (hk' : k' < 256) (h : ∀ i, i < 256 → (if i = k' then b' else if i = k then b else f i) = f' i) : some (Blk.cells (((bl f).set k (.bool b)).set k' (.bool b')) m true) = some (.cells (bl f') m true) := by
  rw [bl_set hk, bl_set hk', bl_congr h]
/-- The bits of a number of 128, place by place in its halves. -/
def ofB (a i k : Nat) : Bool := (decide (k < i) || (decide (64 ≤ k) && decide (k < 64 + i))) && a.testBit k
theorem of_step {a i : Nat} {b b' : Bool} (hi : i < 64) (hb : b = a.testBit i) (hb' : b' = a.testBit (64 + i)) (k : Nat) (_ : k < 256) : (if k = 64 + i then b' else if k = i then b else ofB a i k) = ofB a (i + 1) k := by
  unfold ofB
  by_cases h : k = 64 + i
  · subst h
    rw [if_pos rfl, hb']
    simp
  · rw [if_neg h]
    by_cases h2 : k = i
    · subst h2; rw [if_pos rfl, hb]; simp
    · rw [if_neg h2]
      congr 1
      rw [Bool.eq_iff_iff]
      simp only [Bool.or_eq_true, Bool.and_eq_true, decide_eq_true_eq]
      omega
theorem of_end {a : Nat} (ha : a < 2 ^ 128) (k : Nat) (_ : k < 256) : ofB a 64 k = a.testBit k := by
  unfold ofB
  by_cases h : k < 128
  · have : (decide (k < 64) || (decide (64 ≤ k) && decide (k < 64 + 64))) = true := by
      simp only [Bool.or_eq_true, Bool.and_eq_true, decide_eq_true_eq]; omega
    rw [this]; rfl
  · rw [high_bit ha (by omega)]; simp
theorem twice_bit (v k : Nat) (hk : k < 256) : (decide (0 < k) && v.testBit (k - 1)) = (2 * v % 2 ^ 256).testBit k := by
  have e : 2 * v = 2 ^ 1 * v := by omega
  rw [Nat.testBit_mod_two_pow, decide_eq_true hk, e, Nat.testBit_two_pow_mul]
  rfl
theorem mod_bits (v k : Nat) (hk : k < 256) : (v % 2 ^ 256).testBit k = v.testBit k := by
  rw [Nat.testBit_mod_two_pow, decide_eq_true hk]; rfl
end Go.Proofs.Ytdfkcijholopoaa.Vm
