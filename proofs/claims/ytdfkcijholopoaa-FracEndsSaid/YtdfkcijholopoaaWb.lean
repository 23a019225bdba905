/- Layer wide: quarters. -/
import Derived.Test.YtdfkcijholopoaaWa
namespace Go.Proofs.Ytdfkcijholopoaa.Vm
open Go Go.RowKit
set_option maxRecDepth 10000
set_option linter.unusedSimpArgs false

/-- Quarter k of v. -/
def lb (v k : Nat) : Nat := v / 2 ^ (32 * k) % 2 ^ 32
def u64 (n : Nat) : Value := .int .u64 (n : Int)
/-- The seven quarters of v. -/
def limbs (v : Nat) : List Value := [u64 (lb v 0), u64 (lb v 1), u64 (lb v 2), u64 (lb v 3), u64 (lb v 4), u64 (lb v 5), u64 (lb v 6)]
def q7 (v : Nat) : Value := .agg (limbs v).toArray

theorem lb_lt (v k : Nat) : lb v k < 2 ^ 32 := Nat.mod_lt _ (by decide)
theorem limbs_get (v : Nat) {k : Nat} (hk : k < 7) : (limbs v)[k]? = some (u64 (lb v k)) := by
  match k, hk with
  | 0, _ => rfl
  | 1, _ => rfl
  | 2, _ => rfl
  | 3, _ => rfl
  | 4, _ => rfl
  | 5, _ => rfl
  | 6, _ => rfl
theorem lb_le (v k : Nat) : lb v k * 2 ^ (32 * k) ≤ v :=
  Nat.le_trans (Nat.mul_le_mul_right _ (Nat.mod_le _ _)) (Nat.div_mul_le_self _ _)

/-- Quarter k written: by y. -/
def put (v k y : Nat) : Nat := v - lb v k * 2 ^ (32 * k) + y * 2 ^ (32 * k)
theorem gput_split {B v k y : Nat} : v - v / B ^ k % B * B ^ k + y * B ^ k = v / B ^ (k + 1) * B ^ (k + 1) + y * B ^ k + v % B ^ k := by
  have h1 : B ^ k * (v / B ^ k) + v % B ^ k = v := Nat.div_add_mod _ _
  have h2 : B * (v / B ^ k / B) + v / B ^ k % B = v / B ^ k := Nat.div_add_mod _ _
  have h3 : v / B ^ k / B = v / B ^ (k + 1) := by rw [Nat.div_div_eq_div_mul, ← Nat.pow_succ]
  rw [h3] at h2
  rw [Nat.pow_succ] at *
  generalize v / (B ^ k * B) = q at *
  generalize v / B ^ k % B = d at *
  generalize v % B ^ k = l at *
  generalize v / B ^ k = x at *
  generalize B ^ k = p at *
  subst h2
  have e1 : p * (B * q + d) = q * (p * B) + d * p := by
    rw [Nat.mul_add, Nat.mul_comm p d, Nat.mul_comm q, ← Nat.mul_assoc]
  rw [e1] at h1
  generalize q * (p * B) = m at *
  generalize d * p = n at *
  omega
theorem gput_lb {B v k y : Nat} (hB : 0 < B) (hy : y < B) (j : Nat) : (v - v / B ^ k % B * B ^ k + y * B ^ k) / B ^ j % B = if j = k then y else v / B ^ j % B := by
  rw [gput_split]
  have hp : ∀ n, 0 < B ^ n := fun n => Nat.pow_pos hB
  have hl : v % B ^ k < B ^ k := Nat.mod_lt _ (hp k)
  rcases Nat.lt_trichotomy j k with h | h | h
  · rw [if_neg (by omega)]
    obtain ⟨d, rfl⟩ : ∃ d, k = j + 1 + d := ⟨k - (j + 1), by omega⟩
    have e1 : B ^ (j + 1 + d) = B ^ j * (B * B ^ d) := by rw [Nat.pow_add, Nat.pow_succ, Nat.mul_assoc]
    have e2 : v / B ^ (j + 1 + d + 1) * B ^ (j + 1 + d + 1) + y * B ^ (j + 1 + d) = B ^ j * (B * ((v / B ^ (j + 1 + d + 1) * B + y) * B ^ d)) := by
      generalize v / B ^ (j + 1 + d + 1) = a
      rw [Nat.pow_succ, e1]
      simp only [Nat.add_mul, Nat.mul_add, Nat.mul_assoc, Nat.mul_comm, Nat.mul_left_comm]
    have e3 : B ^ j * (B * (v / B ^ (j + 1 + d) * B ^ d)) + v % B ^ (j + 1 + d) = v := by
      have := Nat.div_add_mod v (B ^ (j + 1 + d))
      generalize v / B ^ (j + 1 + d) = a at *
      generalize v % B ^ (j + 1 + d) = b at *
      rw [e1] at this
      rw [← this]
      simp only [Nat.mul_assoc, Nat.mul_comm, Nat.mul_left_comm]
    rw [e2, Nat.mul_add_div (hp j), Nat.mul_add_mod]
    have e4 : v / B ^ j % B = (B ^ j * (B * (v / B ^ (j + 1 + d) * B ^ d)) + v % B ^ (j + 1 + d)) / B ^ j % B := by rw [e3]
    rw [e4, Nat.mul_add_div (hp j), Nat.mul_add_mod]
  · subst h
    rw [if_pos rfl]
    have e2 : v / B ^ (j + 1) * B ^ (j + 1) + y * B ^ j = B ^ j * (B * (v / B ^ (j + 1)) + y) := by
      generalize v / B ^ (j + 1) = a
      rw [Nat.pow_succ]
      simp only [Nat.add_mul, Nat.mul_add, Nat.mul_assoc, Nat.mul_comm, Nat.mul_left_comm]
    rw [e2, Nat.mul_add_div (hp j), Nat.div_eq_of_lt hl, Nat.add_zero, Nat.mul_add_mod, Nat.mod_eq_of_lt hy]
  · rw [if_neg (by omega)]
    obtain ⟨d, rfl⟩ : ∃ d, j = k + 1 + d := ⟨j - (k + 1), by omega⟩
    have e2 : (v / B ^ (k + 1) * B ^ (k + 1) + y * B ^ k + v % B ^ k) / B ^ (k + 1) = v / B ^ (k + 1) := by
      have h5 : y * B ^ k + v % B ^ k < B ^ (k + 1) := by
        have h6 : (y + 1) * B ^ k ≤ B * B ^ k := Nat.mul_le_mul_right _ hy
        rw [Nat.add_mul, Nat.one_mul, Nat.mul_comm B, ← Nat.pow_succ] at h6
        exact Nat.lt_of_lt_of_le (Nat.add_lt_add_left hl _) h6
      rw [Nat.mul_comm (v / _), Nat.add_assoc, Nat.mul_add_div (hp (k + 1)), Nat.div_eq_of_lt h5, Nat.add_zero]
    rw [Nat.pow_add B (k + 1) d, ← Nat.div_div_eq_div_mul, ← Nat.div_div_eq_div_mul, e2]
theorem put_lb {v k y : Nat} (hy : y < 2 ^ 32) (j : Nat) : lb (put v k y) j = if j = k then y else lb v j := by
  have := gput_lb (B := 2 ^ 32) (v := v) (k := k) (by decide) hy j
  unfold put lb
  simp only [Nat.pow_mul]
  exact this
theorem put_lt {v k y : Nat} (hk : k < 7) (hy : y < 2 ^ 32) (hv : v < 2 ^ 224) : put v k y < 2 ^ 224 := by
  unfold put lb
  match k, hk with
  | 0, _ => omega
  | 1, _ => omega
  | 2, _ => omega
  | 3, _ => omega
  | 4, _ => omega
  | 5, _ => omega
  | 6, _ => omega
theorem limbs_put {v k y : Nat} (hk : k < 7) (hy : y < 2 ^ 32) : (limbs v).set k (u64 y) = limbs (put v k y) := by
  apply List.ext_getElem?
  intro i
  by_cases hi : i < 7
  · rw [limbs_get _ hi, put_lb hy, List.getElem?_set]
    split
    · subst_vars
      rw [if_pos (by simpa [limbs] using hk), if_pos rfl]
    · rw [limbs_get _ hi, if_neg (by omega)]
  · rw [List.getElem?_eq_none (by simp [limbs]; omega), List.getElem?_eq_none (by simp [limbs]; omega)]
theorem limbs_zero : limbs 0 = List.replicate 7 (u64 0) := by rfl

theorem wrapN {n : Nat} (h : n < 2 ^ 64) : IntKind.u64.wrap (n : Int) = (n : Int) := by rw [wrap64]; omega
theorem wrapI {n : Int} (h : -2 ^ 63 ≤ n) (h' : n < 2 ^ 63) : IntKind.i64.wrap n = n := by
  have e : IntKind.i64.wrap n = if n % 2 ^ 64 ≥ 2 ^ 63 then n % 2 ^ 64 - 2 ^ 64 else n % 2 ^ 64 := by simp [IntKind.wrap, IntKind.bits, IntKind.signed]
  rw [e]
  split <;> omega
theorem shr_nat (n k : Nat) (hk : k ≤ 64) : ((n : Int)).fdiv (2 ^ (min (k : Int).toNat IntKind.u64.bits)) = ((n / 2 ^ k : Nat) : Int) := by
  have : min (k : Int).toNat IntKind.u64.bits = k := by rw [Int.toNat_natCast]; exact Nat.min_eq_left hk
  rw [this]
  have h2 : ((2 : Int) ^ k) = ((2 ^ k : Nat) : Int) := by simp
  rw [h2, Int.fdiv_eq_ediv_of_nonneg _ (Int.natCast_nonneg _)]
  rfl
theorem and_nat (a b : Nat) (ha : a < 2 ^ 64) (hb : b < 2 ^ 64) : IntKind.u64.wrap ((BitVec.ofInt IntKind.u64.bits (a : Int) &&& BitVec.ofInt IntKind.u64.bits (b : Int)).toNat : Int) = ((a &&& b : Nat) : Int) := by
  have h : (BitVec.ofInt IntKind.u64.bits (a : Int) &&& BitVec.ofInt IntKind.u64.bits (b : Int)).toNat = a &&& b := by
    show (BitVec.ofInt 64 (a : Int) &&& BitVec.ofInt 64 (b : Int)).toNat = a &&& b
    rw [BitVec.toNat_and, BitVec.ofInt_natCast, BitVec.ofInt_natCast, BitVec.toNat_ofNat, BitVec.toNat_ofNat, Nat.mod_eq_of_lt ha, Nat.mod_eq_of_lt hb]
  rw [h]
  exact wrapN (Nat.lt_of_le_of_lt Nat.and_le_left ha)
theorem or_nat (a b : Nat) (ha : a < 2 ^ 64) (hb : b < 2 ^ 64) : IntKind.u64.wrap ((BitVec.ofInt IntKind.u64.bits (a : Int) ||| BitVec.ofInt IntKind.u64.bits (b : Int)).toNat : Int) = ((a ||| b : Nat) : Int) := by
  have h : (BitVec.ofInt IntKind.u64.bits (a : Int) ||| BitVec.ofInt IntKind.u64.bits (b : Int)).toNat = a ||| b := by
    show (BitVec.ofInt 64 (a : Int) ||| BitVec.ofInt 64 (b : Int)).toNat = a ||| b
    rw [BitVec.toNat_or, BitVec.ofInt_natCast, BitVec.ofInt_natCast, BitVec.toNat_ofNat, BitVec.toNat_ofNat, Nat.mod_eq_of_lt ha, Nat.mod_eq_of_lt hb]
  rw [h]
  exact wrapN (Nat.or_lt_two_pow ha hb)
theorem and_low (a : Nat) (ha : a < 2 ^ 64) : IntKind.u64.wrap ((BitVec.ofInt IntKind.u64.bits (a : Int) &&& BitVec.ofInt IntKind.u64.bits 4294967295).toNat : Int) = ((a % 2 ^ 32 : Nat) : Int) := by
  have h := and_nat a 4294967295 ha (by decide)
  rw [show (4294967295 : Nat) = 2 ^ 32 - 1 from rfl, Nat.and_two_pow_sub_one_eq_mod] at h
  exact h
end Go.Proofs.Ytdfkcijholopoaa.Vm
