/- The types of the program that the virtual runs meet, and what one core operation does to a virtual state. -/
import Derived.Test.YtdfkcijholopoaaVm1
namespace Go.Proofs.Ytdfkcijholopoaa.Vm
open Go

abbrev u0 : Value := .int .u64 0
abbrev i0 : Value := .int .i64 0
def falses : List Bool := List.replicate 256 false
theorem falses_length : falses.length = 256 := List.length_replicate
def bits0 : List Value := falses.map Value.bool
theorem bits0_length : bits0.length = 256 := by unfold bits0; rw [List.length_map, falses_length]

/-- Of a type: is it a struct or an array; its zero cells. -/
def ty (t : Nat) : Option (Bool × List Value) :=
  match t with
  | 2 => some (false, [i0])
  | 3 => some (false, [i0])
  | 4 => some (false, [.bool false])
  | 22 => some (false, [u0])
  | 24 => some (true, [u0, u0])
  | 26 => some (false, [i0])
  | 32 => some (true, bits0)
  | 53 => some (false, [.slice none 0 0])
  | 55 => some (true, [.slice none 0 0])
  | 58 => some (true, [u0, u0, u0])
  | 61 => some (false, [.slice none 0 0])
  | 67 => some (true, [i0, i0, u0, u0, u0])
  | 101 => some (true, [u0, i0])
  | 104 => some (true, [i0, i0])
  | 106 => some (true, [i0, i0, i0, u0, u0, u0, u0, .slice none 0 0, .bool false, i0, u0, i0])
  | 116 => some (true, [u0, u0, u0, u0, u0, u0, u0])
  | 140 => some (false, [.nilFunc])
  | 143 => some (false, [.nilFunc])
  | 147 => some (true, [u0, u0, u0])
  | 152 => some (false, [.nilFunc])
  | 155 => some (true, [u0, u0])
  | _ => none

/-- A struct's fields: where each begins, and its size. -/
def flds (t : Nat) : Option (List (Nat × Nat)) :=
  match t with
  | 24 => some [(0, 1), (1, 1)]
  | 55 => some [(0, 1)]
  | 58 => some [(0, 2), (2, 1)]
  | 67 => some [(0, 1), (1, 1), (2, 3)]
  | 101 => some [(0, 1), (1, 1)]
  | 106 => some [(0, 1), (1, 5), (6, 1), (7, 1), (8, 1), (9, 1), (10, 1), (11, 1)]
  | 147 => some [(0, 2), (2, 1)]
  | _ => none
/-- An array: how many; an element's type. -/
def arr (t : Nat) : Option (Nat × Nat) :=
  match t with
  | 32 => some (256, 4)
  | 104 => some (2, 2)
  | 116 => some (7, 22)
  | 155 => some (2, 22)
  | _ => none
/-- A slice's element type. -/
def sl (t : Nat) : Option Nat :=
  match t with
  | 40 => some 4
  | 53 => some 67
  | 61 => some 3
  | 83 => some 58
  | 110 => some 55
  | _ => none

noncomputable abbrev P : Program := Try.prog

def aggD : TypeDesc → Bool
  | .struct _ | .array _ _ => true
  | _ => false

structure TyOk (t : Nat) (ag : Bool) (z : List Value) : Prop where
  zero : ∀ w, ∃ zv, (zeroValue t).run P w = .ok zv w ∧ zv.cells = z.toArray
  agg : ∀ w, (isAgg t).run P w = .ok ag w
  size : ∀ w, (sizeOf t).run P w = .ok z.length w
  pl : plainL z = true
  cell : (z.all (·.oneCell')) = true
  pos : 0 < z.length
  one : ag = false → z.length = 1

theorem tyOk_of {t n : Nat} {ag : Bool} {z : List Value} {zv : Value} (hi : (P.info? t).map (fun i => (i.zero, i.size)) = some (some zv, n))
    (hu : (P.underlying t).map aggD = some ag) (hz : zv.cells = z.toArray) (hn : n = z.length) (hp : plainL z = true) (hc : (z.all (·.oneCell')) = true) (h0 : 0 < z.length) (h1 : ag = false → z.length = 1) : TyOk t ag z := by
  cases hq : P.info? t with
  | none => simp [hq] at hi
  | some i =>
    simp [hq] at hi
    refine ⟨fun w => ⟨zv, ?_, hz⟩, fun w => ?_, fun w => ?_, hp, hc, h0, h1⟩
    · simp [zeroValue, typeInfo, hq, hi]
    · cases hd : P.underlying t with
      | none => simp [hd] at hu
      | some d =>
        simp [hd] at hu
        unfold isAgg
        rw [Sem.run_bind, run_underlying hd w]
        subst hu
        cases d <;> simp [aggD]
    · simp [sizeOf, typeInfo, hq, hi, hn]

theorem ty2 : TyOk 2 false [i0] := tyOk_of (zv := i0) (n := 1) (by kernel_rfl) (by kernel_rfl) rfl rfl rfl rfl (by decide) (fun _ => rfl)
theorem ty3 : TyOk 3 false [i0] := tyOk_of (zv := i0) (n := 1) (by kernel_rfl) (by kernel_rfl) rfl rfl rfl rfl (by decide) (fun _ => rfl)
theorem ty4 : TyOk 4 false [.bool false] := tyOk_of (zv := .bool false) (n := 1) (by kernel_rfl) (by kernel_rfl) rfl rfl rfl rfl (by decide) (fun _ => rfl)
theorem ty22 : TyOk 22 false [u0] := tyOk_of (zv := u0) (n := 1) (by kernel_rfl) (by kernel_rfl) rfl rfl rfl rfl (by decide) (fun _ => rfl)
theorem ty24 : TyOk 24 true [u0, u0] := tyOk_of (zv := .agg #[u0, u0]) (n := 2) (by kernel_rfl) (by kernel_rfl) rfl rfl rfl rfl (by decide) (fun h => by cases h)
theorem ty26 : TyOk 26 false [i0] := tyOk_of (zv := i0) (n := 1) (by kernel_rfl) (by kernel_rfl) rfl rfl rfl rfl (by decide) (fun _ => rfl)
theorem plainL_bools (l : List Bool) : plainL (l.map Value.bool) = true := by
  rw [plainL_iff]; intro v hv; obtain ⟨b, _, rfl⟩ := List.mem_map.1 hv; rfl
theorem cell_bools (l : List Bool) : ((l.map Value.bool).all (·.oneCell')) = true := by simp [Value.oneCell']
theorem ty32 : TyOk 32 true bits0 := tyOk_of (zv := .agg bits0.toArray) (n := 256) (by kernel_rfl) (by kernel_rfl) rfl bits0_length.symm (plainL_bools _) (cell_bools _) (by rw [bits0_length]; decide) (fun h => by cases h)
theorem ty53 : TyOk 53 false [.slice none 0 0] := tyOk_of (zv := .slice none 0 0) (n := 1) (by kernel_rfl) (by kernel_rfl) rfl rfl rfl rfl (by decide) (fun _ => rfl)
theorem ty55 : TyOk 55 true [.slice none 0 0] := tyOk_of (zv := .agg #[.slice none 0 0]) (n := 1) (by kernel_rfl) (by kernel_rfl) rfl rfl rfl rfl (by decide) (fun h => by cases h)
theorem ty58 : TyOk 58 true [u0, u0, u0] := tyOk_of (zv := .agg #[u0, u0, u0]) (n := 3) (by kernel_rfl) (by kernel_rfl) rfl rfl rfl rfl (by decide) (fun h => by cases h)
theorem ty61 : TyOk 61 false [.slice none 0 0] := tyOk_of (zv := .slice none 0 0) (n := 1) (by kernel_rfl) (by kernel_rfl) rfl rfl rfl rfl (by decide) (fun _ => rfl)
theorem ty67 : TyOk 67 true [i0, i0, u0, u0, u0] := tyOk_of (zv := .agg #[i0, i0, u0, u0, u0]) (n := 5) (by kernel_rfl) (by kernel_rfl) rfl rfl rfl rfl (by decide) (fun h => by cases h)
theorem ty101 : TyOk 101 true [u0, i0] := tyOk_of (zv := .agg #[u0, i0]) (n := 2) (by kernel_rfl) (by kernel_rfl) rfl rfl rfl rfl (by decide) (fun h => by cases h)
theorem ty104 : TyOk 104 true [i0, i0] := tyOk_of (zv := .agg #[i0, i0]) (n := 2) (by kernel_rfl) (by kernel_rfl) rfl rfl rfl rfl (by decide) (fun h => by cases h)
theorem ty106 : TyOk 106 true [i0, i0, i0, u0, u0, u0, u0, .slice none 0 0, .bool false, i0, u0, i0] :=
  tyOk_of (zv := .agg #[i0, i0, i0, u0, u0, u0, u0, .slice none 0 0, .bool false, i0, u0, i0]) (n := 12) (by kernel_rfl) (by kernel_rfl) rfl rfl rfl rfl (by decide) (fun h => by cases h)
theorem ty116 : TyOk 116 true [u0, u0, u0, u0, u0, u0, u0] := tyOk_of (zv := .agg #[u0, u0, u0, u0, u0, u0, u0]) (n := 7) (by kernel_rfl) (by kernel_rfl) rfl rfl rfl rfl (by decide) (fun h => by cases h)
theorem ty140 : TyOk 140 false [.nilFunc] := tyOk_of (zv := .nilFunc) (n := 1) (by kernel_rfl) (by kernel_rfl) rfl rfl rfl rfl (by decide) (fun _ => rfl)
theorem ty143 : TyOk 143 false [.nilFunc] := tyOk_of (zv := .nilFunc) (n := 1) (by kernel_rfl) (by kernel_rfl) rfl rfl rfl rfl (by decide) (fun _ => rfl)
theorem ty147 : TyOk 147 true [u0, u0, u0] := tyOk_of (zv := .agg #[u0, u0, u0]) (n := 3) (by kernel_rfl) (by kernel_rfl) rfl rfl rfl rfl (by decide) (fun h => by cases h)
theorem ty152 : TyOk 152 false [.nilFunc] := tyOk_of (zv := .nilFunc) (n := 1) (by kernel_rfl) (by kernel_rfl) rfl rfl rfl rfl (by decide) (fun _ => rfl)
theorem ty155 : TyOk 155 true [u0, u0] := tyOk_of (zv := .agg #[u0, u0]) (n := 2) (by kernel_rfl) (by kernel_rfl) rfl rfl rfl rfl (by decide) (fun h => by cases h)

theorem ty_ok {t : Nat} {ag : Bool} {z : List Value} (h : ty t = some (ag, z)) : TyOk t ag z := by
  unfold ty at h
  split at h <;> first | (cases h; done) | (injection h with h; injection h with h1 h2; subst h1; subst h2; first | exact ty2 | exact ty3 | exact ty4 | exact ty22 | exact ty24 | exact ty26 | exact ty32 | exact ty53 | exact ty55 | exact ty58 | exact ty61 | exact ty67 | exact ty101 | exact ty104 | exact ty106 | exact ty116 | exact ty140 | exact ty143 | exact ty147 | exact ty152 | exact ty155)

end Go.Proofs.Ytdfkcijholopoaa.Vm
