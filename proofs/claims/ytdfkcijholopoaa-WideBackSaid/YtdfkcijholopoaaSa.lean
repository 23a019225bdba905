/- A number's digits. -/
import Derived.Test.YtdfkcijholopoaaVm19
import Derived.Test.YtdfkcijholopoaaWf
namespace Go.Proofs.Ytdfkcijholopoaa.Vm
open Go Go.RowKit
set_option maxRecDepth 10000
set_option linter.unusedSimpArgs false

/-- One digit. -/
def dig (n : Nat) : ByteArray := ⟨#[UInt8.ofNat (48 + n)]⟩
/-- The digits of v, the highest first, at most f of them. -/
def dgs : Nat → Nat → ByteArray
  | 0, _ => .empty
  | f + 1, v => if v / 10 = 0 then dig (v % 10) else dgs f (v / 10) ++ dig (v % 10)
theorem dgs_size (f v : Nat) : (dgs f v).size ≤ f := by
  induction f generalizing v with
  | zero => exact Nat.le_refl 0
  | succ f ih =>
    unfold dgs
    split
    · show 1 ≤ f + 1
      omega
    · rw [ByteArray.size_append]
      have := ih (v / 10)
      show (dgs f (v / 10)).size + 1 ≤ f + 1
      omega
theorem encode_dig {r : Nat} (h : r < 10) : Utf8.encode ((48 + r : Nat) : Int) = dig r := by
  match r, h with
  | 0, _ => rfl
  | 1, _ => rfl
  | 2, _ => rfl
  | 3, _ => rfl
  | 4, _ => rfl
  | 5, _ => rfl
  | 6, _ => rfl
  | 7, _ => rfl
  | 8, _ => rfl
  | 9, _ => rfl
end Go.Proofs.Ytdfkcijholopoaa.Vm
