/- The reference's bits: rows of 256 bools, by a function of the place. -/
import Derived.Test.YtdfkcijholopoaaWf
namespace Go.Proofs.Ytdfkcijholopoaa.Vm
open Go Go.RowKit
set_option maxRecDepth 10000
set_option linter.unusedSimpArgs false

theorem bl_ex : ∃ g : (Nat → Bool) → List Value, ∀ f, g f = (List.range 256).map fun k => Value.bool (f k) := ⟨_, fun _ => rfl⟩
/-- 256 bools (never unfolded). -/
noncomputable def bl : (Nat → Bool) → List Value := Classical.choose bl_ex
theorem bl_eq (f : Nat → Bool) : bl f = (List.range 256).map fun k => Value.bool (f k) := Classical.choose_spec bl_ex f
theorem bl_length (f : Nat → Bool) : (bl f).length = 256 := by rw [bl_eq, List.length_map, List.length_range]
theorem bl_get (f : Nat → Bool) {k : Nat} (hk : k < 256) : (bl f)[k]? = some (.bool (f k)) := by
  rw [bl_eq, List.getElem?_map, List.getElem?_range hk]
  rfl
theorem bl_congr {f g : Nat → Bool} (h : ∀ k, k < 256 → f k = g k) : bl f = bl g := by
  rw [bl_eq, bl_eq]
  refine List.map_congr_left fun k hk => ?_
  rw [h k (List.mem_range.1 hk)]
theorem bl_set {f : Nat → Bool} {k : Nat} {b : Bool} (hk : k < 256) : (bl f).set k (.bool b) = bl (fun i => if i = k then b else f i) := by
  apply List.ext_getElem?
  intro i
  rw [List.getElem?_set]
  by_cases hi : i < 256
  · rw [bl_get (fun i => if i = k then b else f i) hi]
    by_cases e : k = i
    · subst e; rw [if_pos rfl, if_pos (by rw [bl_length]; exact hk), if_pos rfl]
    · rw [if_neg e, bl_get f hi, if_neg (fun h => e h.symm)]
  · rw [if_neg (by omega), List.getElem?_eq_none (by rw [bl_length]; omega), List.getElem?_eq_none (by rw [bl_length]; omega)]
theorem bl_zero : bits0 = bl (fun _ => false) := by
  apply List.ext_getElem?
  intro i
  by_cases hi : i < 256
  · rw [bl_get _ hi]
    unfold bits0 falses
    rw [List.getElem?_map, List.getElem?_replicate, if_pos hi]
    rfl
  · rw [List.getElem?_eq_none (by rw [bits0_length]; omega), List.getElem?_eq_none (by rw [bl_length]; omega)]
theorem bl_mem {f : Nat → Bool} {v : Value} (h : v ∈ bl f) : ∃ b, v = .bool b := by
  rw [bl_eq] at h
  obtain ⟨k, _, rfl⟩ := List.mem_map.1 h
  exact ⟨_, rfl⟩
def ba (f : Nat → Bool) : Value → Prop := fun v => v = .agg (bl f).toArray
theorem plain_bl (f : Nat → Bool) : plain (.agg (bl f).toArray) = true := by
  rw [plain, plainA]
  refine (plainL_iff _).2 fun v hv => ?_
  obtain ⟨b, rfl⟩ := bl_mem hv
  rfl
theorem one_bl (f : Nat → Bool) : ((bl f).toArray.toList.all (·.oneCell')) = true := by
  rw [List.all_eq_true]
  intro v hv
  obtain ⟨b, rfl⟩ := bl_mem (f := f) (by simpa using hv)
  rfl

/-- The bits of v. -/
noncomputable def b8 (v : Nat) : Value := .agg (bl (fun k => v.testBit k)).toArray
theorem plain_b8 (v : Nat) : plain (b8 v) = true := plain_bl _
theorem b8_of {f : Nat → Bool} {v : Nat} (h : ∀ k, k < 256 → f k = v.testBit k) : Value.agg (bl f).toArray = b8 v := by
  unfold b8
  rw [bl_congr h]

section
variable {ev : Operand → Value} {h : Nat → Option Blk}
theorem vex_ld32 {x : Operand} {m : Nat} {f : Nat → Bool} {tt : Nat} {own : Bool} (hx : ev x = .pointer (some ⟨m, 0, none⟩)) (hh : h m = some (.cells (bl f) tt own)) :
    vex ev h (.load 32 x) = some (.rd m (.agg (bl f).toArray)) := by
  have ht : ty 32 = some (true, bits0) := rfl
  simp only [vex, hx, ht, hh, partAt]
  rw [if_pos ⟨trivial, by rw [bl_length, bits0_length]⟩]
  rfl
theorem vex_st32 {x y : Operand} {m : Nat} {c : List Value} {f : Nat → Bool} {tt : Nat} (hx : ev x = .pointer (some ⟨m, 0, none⟩)) (hh : h m = some (.cells c tt true)) (hl : c.length = 256) (hy : ev y = .agg (bl f).toArray) :
    vex ev h (.store 32 x y) = some (.set m (.cells (bl f) tt true)) := by
  have ht : ty 32 = some (true, bits0) := rfl
  simp only [vex, hx, ht, hh, hy, setAt]
  rw [if_pos ⟨by simp [bl_length, bits0_length], one_bl f⟩, if_pos ⟨trivial, by rw [hl, bits0_length]⟩]
  rfl
theorem vex_ne32 {x y : Operand} {f g : Nat → Bool} (hx : ev x = .agg (bl f).toArray) (hy : ev y = .agg (bl g).toArray) {b : Bool} (hb : b = true ↔ ∀ k, k < 256 → f k = g k) {u : Nat} :
    vex ev h (.binOp .neq 32 x y u) = some (.val (.bool !b)) := by
  have e : ∀ f : Nat → Bool, unB (bl f) = some ((List.range 256).map f) := by
    intro f
    rw [bl_eq, show ((List.range 256).map fun k => Value.bool (f k)) = ((List.range 256).map f).map Value.bool from by rw [List.map_map]; rfl]
    exact unB_bools _
  have hbe : ((List.range 256).map f == (List.range 256).map g) = b := by
    rw [Bool.eq_iff_iff, beq_iff_eq, hb]
    constructor
    · intro he k hk
      have h1 := congrArg (fun l => l[k]?) he
      simpa [List.getElem?_range, hk] using h1
    · intro he
      exact List.map_congr_left fun k hk => he k (List.mem_range.1 hk)
  have ha : aeq 32 (bl f).toArray.toList (bl g).toArray.toList = some b := by
    unfold aeq
    simp only [e, List.length_map, List.length_range, and_self, if_true]
    exact congrArg some hbe
  simp only [vex, vbin, hx, hy]
  rw [ha]
  rfl
end
theorem vres_32 {s : St} {p m : Nat} {f : Nat → Bool} {tt : Nat} {own : Bool} (hp : s.t p = .pointer (some ⟨m, 0, none⟩)) (hm : s.h m = some (.cells (bl f) tt own)) : vres s (.cell p 32) = some (.agg (bl f).toArray) := by
  have ht : ty 32 = some (true, bits0) := rfl
  simp only [vres, hp, ht, hm, partAt]
  rw [if_pos ⟨trivial, by rw [bl_length, bits0_length]⟩]
theorem blk32 {f f' : Nat → Bool} {k m : Nat} {b : Bool} (hk : k < 256) (h : ∀ i, i < 256 → (if i = k then b else f i) = f' i) : some (Blk.cells ((bl f).set k (.bool b)) m true) = some (.cells (bl f') m true) := by
  rw [bl_set hk, bl_congr h]
theorem blk0 {m : Nat} {f : Nat → Bool} (h : ∀ k, k < 256 → f k = false) : some (Blk.cells bits0 m true) = some (.cells (bl f) m true) := by
  rw [bl_zero, bl_congr fun k hk => (h k hk).symm]
theorem bit_raw (x i : Nat) : (((x : Int).fdiv (2 ^ i)).tmod 2 == 1) = x.testBit i := by
  rw [fdiv_nat, Nat.testBit_eq_decide_div_mod_eq, Bool.eq_iff_iff]
  rw [beq_iff_eq, decide_eq_true_eq, Int.tmod_eq_emod_of_nonneg (Int.natCast_nonneg _)]
  generalize x / 2 ^ i = y
  omega
end Go.Proofs.Ytdfkcijholopoaa.Vm
