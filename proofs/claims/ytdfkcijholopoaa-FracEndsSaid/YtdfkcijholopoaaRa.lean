/- Rows of elements, as cells; their loads. -/
import Derived.Test.YtdfkcijholopoaaVm27
namespace Go.Proofs.Ytdfkcijholopoaa.Vm
open Go Go.RowKit
set_option linter.unusedSimpArgs false

/-- The cells of a row of elements. -/
def rws {α : Type} (f : α → List Value) : List α → List Value
  | [] => []
  | a :: l => f a ++ rws f l
theorem rws_len {α : Type} {f : α → List Value} {sz : Nat} (hf : ∀ a, (f a).length = sz) (l : List α) : (rws f l).length = l.length * sz := by
  induction l with
  | nil => simp [rws]
  | cons a l ih => simp [rws, hf, ih, Nat.succ_mul, Nat.add_comm]
theorem rws_append {α : Type} (f : α → List Value) (l r : List α) : rws f (l ++ r) = rws f l ++ rws f r := by
  induction l with
  | nil => rfl
  | cons a l ih => simp [rws, ih]
theorem rws_plain {α : Type} {f : α → List Value} (hf : ∀ a, plainL (f a) = true) (l : List α) : plainL (rws f l) = true := by
  induction l with
  | nil => rfl
  | cons a l ih =>
    rw [plainL_iff] at ih ⊢
    intro v hv
    rcases List.mem_append.1 hv with hv | hv
    · exact (plainL_iff _).1 (hf a) v hv
    · exact ih v hv
theorem rws_one {α : Type} {f : α → List Value} (hf : ∀ a, (f a).all (·.oneCell') = true) (l : List α) : (rws f l).all (·.oneCell') = true := by
  induction l with
  | nil => rfl
  | cons a l ih => simp only [rws, List.all_append, hf, ih, Bool.and_self]
theorem rws_split {α : Type} {f : α → List Value} {l : List α} {i : Nat} {a : α} (h : l[i]? = some a) : rws f l = rws f (l.take i) ++ f a ++ rws f (l.drop (i + 1)) := by
  have h1 : l = l.take i ++ a :: l.drop (i + 1) := by
    obtain ⟨hi, rfl⟩ := List.getElem?_eq_some_iff.1 h
    rw [← List.drop_eq_getElem_cons hi, List.take_append_drop]
  conv => lhs; rw [h1]
  rw [rws_append, rws, List.append_assoc]
theorem rws_at {α : Type} {f : α → List Value} {sz : Nat} (hf : ∀ a, (f a).length = sz) {l : List α} {sp : List Value} {i : Nat} {a : α} (h : l[i]? = some a) : (rws f l ++ sp).drop (i * sz) = f a ++ (rws f (l.drop (i + 1)) ++ sp) := by
  have hi := (List.getElem?_eq_some_iff.1 h).1
  rw [rws_split h, List.append_assoc, List.append_assoc]
  have hl : (rws f (l.take i)).length = i * sz := by rw [rws_len hf, List.length_take, Nat.min_eq_left (by omega)]
  rw [← hl, List.drop_left]
theorem rws_get {α : Type} {f : α → List Value} {sz : Nat} (hf : ∀ a, (f a).length = sz) {l : List α} {sp : List Value} {i : Nat} {a : α} (h : l[i]? = some a) {j s : Nat} (hj : j + s ≤ sz) : ((rws f l ++ sp).drop (i * sz + j)).take s = ((f a).drop j).take s ∧ i * sz + j + s ≤ (rws f l ++ sp).length := by
  have h1 := rws_at hf (sp := sp) h
  have h2 : ((rws f l ++ sp).drop (i * sz + j)) = (f a ++ (rws f (l.drop (i + 1)) ++ sp)).drop j := by rw [← h1, List.drop_drop]
  have hi := (List.getElem?_eq_some_iff.1 h).1
  refine ⟨?_, ?_⟩
  · rw [h2, List.drop_append_of_le_length (by rw [hf]; omega), List.take_append_of_le_length (by rw [List.length_drop, hf]; omega)]
  · rw [List.length_append, rws_len hf]
    have : (i + 1) * sz ≤ l.length * sz := Nat.mul_le_mul_right _ hi
    rw [Nat.succ_mul] at this
    omega

section
variable {ev : Operand → Value} {h : Nat → Option Blk} {α : Type} {f : α → List Value} {sz : Nat}
/-- A part of an element: a struct. -/
theorem vex_ldr (hf : ∀ a, (f a).length = sz) {t : Nat} {x : Operand} {m k j i : Nat} {l : List α} {sp cs : List Value} {tt : Nat} {own : Bool} {z : List Value} {a : α} {d : List Value} (hx : ev x = .pointer (some ⟨m, k, none⟩)) (hk : k = i * sz + j) (hh : h m = some (.cells cs tt own)) (hcs : cs = rws f l ++ sp) (ht : ty t = some (true, z)) (ha : l[i]? = some a) (hj : j + z.length ≤ sz)
    (hd : ((f a).drop j).take z.length = d) : vex ev h (.load t x) = some (.rd m (.agg d.toArray)) := by
  subst hcs
  obtain ⟨h1, h2⟩ := rws_get hf (sp := sp) ha hj
  rw [vex_ldn hx hk hh ht h2, h1, hd]
/-- One cell of it. -/
theorem vex_ldc (hf : ∀ a, (f a).length = sz) {t : Nat} {x : Operand} {m k j i : Nat} {l : List α} {sp cs : List Value} {tt : Nat} {own : Bool} {z : List Value} {a : α} {v : Value} (hx : ev x = .pointer (some ⟨m, k, none⟩)) (hk : k = i * sz + j) (hh : h m = some (.cells cs tt own)) (hcs : cs = rws f l ++ sp) (ht : ty t = some (false, z)) (ha : l[i]? = some a) (hj : j + 1 ≤ sz)
    (hd : (f a)[j]? = some v) : vex ev h (.load t x) = some (.rd m v) := by
  subst hcs
  refine vex_ld1 hx hk hh ht ?_
  have h1 := rws_at hf (sp := sp) ha
  have h2 : ((rws f l ++ sp).drop (i * sz))[j]? = (rws f l ++ sp)[i * sz + j]? := List.getElem?_drop
  rw [← h2, h1, List.getElem?_append_left (by rw [hf]; omega), hd]
end
theorem rws_win {α : Type} (f : α → List Value) (l : List α) : rws f l = rws f l ++ [] := (List.append_nil _).symm
theorem bdH_one {K k : Nat} {c : List Value} {t : TypeId} {own : Bool} (hk : k < K) (hp : plainL c = true) : bdH K [(k, .cells c t own)] = true := by
  simp [bdH, bdB, hk, bdL_plain K hp]
theorem wbool (b : Bool) : Value.bool b = .bool b := rfl

end Go.Proofs.Ytdfkcijholopoaa.Vm
