/- What the proofs stand on, in one text: Vm1, Vm2, Vm3, Vm4, Vm5, Vm6, Vm7. -/
import Derived.Test.YtdfkcijholopoaaChecked
import Derived.Orders
import Derived.Still
import Derived.Below
import Derived.Laws.CopyRow
import Derived.Laws.Rows
import Derived.Tactics
import Derived.KernelRfl
import Derived.Laws.StructEq
import Derived.Laws.Slices
namespace Go.Proofs.Ytdfkcijholopoaa.Vm
open Go

def upd {α : Type} (f : Nat → α) (k : Nat) (v : α) : Nat → α := fun i => if i = k then v else f i
theorem upd_apply {α : Type} (f : Nat → α) (k : Nat) (v : α) (i : Nat) : upd f k v i = if i = k then v else f i := rfl
theorem upd_same {α : Type} (f : Nat → α) (k : Nat) (v : α) : upd f k v k = v := if_pos rfl
theorem upd_ne {α : Type} (f : Nat → α) {k i : Nat} (v : α) (h : i ≠ k) : upd f k v i = f i := if_neg h
theorem upd_comm {α : Type} (f : Nat → α) {k i : Nat} (v u : α) (h : i ≠ k) : upd (upd f k v) i u = upd (upd f i u) k v := by
  funext j
  simp only [upd]
  by_cases h1 : j = i
  · subst h1; simp [h]
  · by_cases h2 : j = k
    · subst h2; simp [h1]
    · simp [h1, h2]

mutual
/-- No address in it. -/
def plain : Value → Bool
  | .pointer (some _) => false
  | .slice (some _) _ _ => false
  | .map (some _) => false
  | .chan (some _) => false
  | .func _ a c => plainA a && plainA c
  | .iface _ v => plain v
  | .agg cs => plainA cs
  | .tuple vs => plainA vs
  | _ => true
def plainA : Array Value → Bool
  | ⟨l⟩ => plainL l
def plainL : List Value → Bool
  | [] => true
  | v :: l => plain v && plainL l
end

theorem plainL_iff (l : List Value) : plainL l = true ↔ ∀ v ∈ l, plain v = true := by
  induction l with
  | nil => simp [plainL]
  | cons v l ih => simp [plainL, ih]
theorem plainA_get {c : Array Value} (h : plainA c = true) {i : Nat} {v : Value} (hv : c[i]? = some v) : plain v = true := by
  obtain ⟨l⟩ := c
  exact (plainL_iff l).1 (by simpa [plainA] using h) v (List.mem_of_getElem? (by simpa using hv))

/-- A value of which nothing is known (a slot that nobody reads any more). -/
def junk : Value := .chan (some 0)
def isJ : Value → Bool
  | .chan (some _) => true
  | _ => false

/-- How a real value stands to a virtual one: virtual block names go to real blocks, each with an offset. -/
inductive Rel (ρ : Nat → Option (Nat × Nat)) : Value → Value → Prop
  | plain {v : Value} : plain v = true → Rel ρ v v
  | ptr {m k r o : Nat} : ρ m = some (r, o) → Rel ρ (.pointer (some ⟨m, k, none⟩)) (.pointer (some ⟨r, o + k, none⟩))
  | slice {m k r o l c : Nat} : ρ m = some (r, o) → Rel ρ (.slice (some ⟨m, k, none⟩) l c) (.slice (some ⟨r, o + k, none⟩) l c)
  | wild {m k s : Nat} {a : Addr} : Rel ρ (.slice (some ⟨m, k, some s⟩) 0 0) (.slice (some a) 0 0)
  | map {m r : Nat} : ρ m = some (r, 0) → Rel ρ (.map (some m)) (.map (some r))
  | func {fn : Fn} {a a' c c' : Array Value} : a.size = a'.size → (∀ (i : Nat) (v v' : Value), a[i]? = some v → a'[i]? = some v' → Rel ρ v v') →
      c.size = c'.size → (∀ (i : Nat) (v v' : Value), c[i]? = some v → c'[i]? = some v' → Rel ρ v v') → Rel ρ (.func fn a c) (.func fn a' c')
  | agg {c c' : Array Value} : c.size = c'.size → (∀ (i : Nat) (v v' : Value), c[i]? = some v → c'[i]? = some v' → Rel ρ v v') → Rel ρ (.agg c) (.agg c')
  | tuple {c c' : Array Value} : c.size = c'.size → (∀ (i : Nat) (v v' : Value), c[i]? = some v → c'[i]? = some v' → Rel ρ v v') → Rel ρ (.tuple c) (.tuple c')

def RelA (ρ : Nat → Option (Nat × Nat)) (c c' : Array Value) : Prop := c.size = c'.size ∧ ∀ (i : Nat) (v v' : Value), c[i]? = some v → c'[i]? = some v' → Rel ρ v v'
def RelL (ρ : Nat → Option (Nat × Nat)) (c c' : List Value) : Prop := c.length = c'.length ∧ ∀ (i : Nat) (v v' : Value), c[i]? = some v → c'[i]? = some v' → Rel ρ v v'

def Ext (ρ ρ' : Nat → Option (Nat × Nat)) : Prop := ∀ m x, ρ m = some x → ρ' m = some x
theorem Ext.refl (ρ : Nat → Option (Nat × Nat)) : Ext ρ ρ := fun _ _ h => h
theorem Ext.trans {a b c : Nat → Option (Nat × Nat)} (h : Ext a b) (k : Ext b c) : Ext a c := fun m x hx => k m x (h m x hx)
theorem Ext.upd {ρ : Nat → Option (Nat × Nat)} {m : Nat} (h : ρ m = none) (x : Option (Nat × Nat)) : Ext ρ (upd ρ m x) := by
  intro k y hy
  by_cases hk : k = m
  · subst hk; rw [h] at hy; cases hy
  · rw [upd_ne _ _ hk]; exact hy

theorem Rel.ext {ρ ρ' : Nat → Option (Nat × Nat)} (he : Ext ρ ρ') {v u : Value} (h : Rel ρ v u) : Rel ρ' v u := by
  induction h with
  | plain h => exact .plain h
  | ptr h => exact .ptr (he _ _ h)
  | slice h => exact .slice (he _ _ h)
  | wild => exact .wild
  | map h => exact .map (he _ _ h)
  | func h1 _ h2 _ ih1 ih2 => exact .func h1 ih1 h2 ih2
  | agg h1 _ ih => exact .agg h1 ih
  | tuple h1 _ ih => exact .tuple h1 ih
theorem RelA.ext {ρ ρ' : Nat → Option (Nat × Nat)} (he : Ext ρ ρ') {v u : Array Value} (h : RelA ρ v u) : RelA ρ' v u := ⟨h.1, fun i v v' a b => (h.2 i v v' a b).ext he⟩
theorem RelL.ext {ρ ρ' : Nat → Option (Nat × Nat)} (he : Ext ρ ρ') {v u : List Value} (h : RelL ρ v u) : RelL ρ' v u := ⟨h.1, fun i v v' a b => (h.2 i v v' a b).ext he⟩

theorem array_eq_of_rel {c c' : Array Value} (hs : c.size = c'.size) (h : ∀ (i : Nat) (v v' : Value), c[i]? = some v → c'[i]? = some v' → v' = v) : c' = c := by
  apply Array.ext
  · exact hs.symm
  · intro i h1 h2
    exact h i c[i] c'[i] (by simp [h2]) (by simp [h1])

/-- A plain value stands for itself. -/
theorem Rel.eq_of_plain {ρ : Nat → Option (Nat × Nat)} {v u : Value} (h : Rel ρ v u) : Vm.plain v = true → u = v := by
  induction h with
  | plain _ => intro _; rfl
  | ptr _ => intro h; simp [Vm.plain] at h
  | slice _ => intro h; simp [Vm.plain] at h
  | wild => intro h; simp [Vm.plain] at h
  | map _ => intro h; simp [Vm.plain] at h
  | func h1 _ h2 _ ih1 ih2 =>
    intro h
    simp only [Vm.plain, Bool.and_eq_true] at h
    rw [array_eq_of_rel h1 fun i v v' a b => ih1 i v v' a b (plainA_get h.1 a), array_eq_of_rel h2 fun i v v' a b => ih2 i v v' a b (plainA_get h.2 a)]
  | agg h1 _ ih =>
    intro h
    simp only [Vm.plain] at h
    rw [array_eq_of_rel h1 fun i v v' a b => ih i v v' a b (plainA_get h a)]
  | tuple h1 _ ih =>
    intro h
    simp only [Vm.plain] at h
    rw [array_eq_of_rel h1 fun i v v' a b => ih i v v' a b (plainA_get h a)]

theorem RelA.refl_of_plain {ρ : Nat → Option (Nat × Nat)} {c : Array Value} (h : plainA c = true) : RelA ρ c c :=
  ⟨rfl, fun i v v' a b => by rw [a] at b; cases b; exact .plain (plainA_get h a)⟩
theorem Rel.agg' {ρ : Nat → Option (Nat × Nat)} {c c' : Array Value} (h : RelA ρ c c') : Rel ρ (.agg c) (.agg c') := .agg h.1 h.2
theorem Rel.tuple' {ρ : Nat → Option (Nat × Nat)} {c c' : Array Value} (h : RelA ρ c c') : Rel ρ (.tuple c) (.tuple c') := .tuple h.1 h.2

theorem Rel.agg_inv {ρ : Nat → Option (Nat × Nat)} {c : Array Value} {u : Value} (h : Rel ρ (.agg c) u) : ∃ c', u = .agg c' ∧ RelA ρ c c' := by
  cases h with
  | plain h => exact ⟨c, rfl, RelA.refl_of_plain (by simpa [Vm.plain] using h)⟩
  | agg h1 h2 => exact ⟨_, rfl, h1, h2⟩
theorem Rel.tuple_inv {ρ : Nat → Option (Nat × Nat)} {c : Array Value} {u : Value} (h : Rel ρ (.tuple c) u) : ∃ c', u = .tuple c' ∧ RelA ρ c c' := by
  cases h with
  | plain h => exact ⟨c, rfl, RelA.refl_of_plain (by simpa [Vm.plain] using h)⟩
  | tuple h1 h2 => exact ⟨_, rfl, h1, h2⟩
theorem Rel.ptr_inv {ρ : Nat → Option (Nat × Nat)} {m k : Nat} {u : Value} (h : Rel ρ (.pointer (some ⟨m, k, none⟩)) u) : ∃ r o, ρ m = some (r, o) ∧ u = .pointer (some ⟨r, o + k, none⟩) := by
  cases h with
  | plain h => simp [Vm.plain] at h
  | ptr h => exact ⟨_, _, h, rfl⟩
theorem Rel.slice_inv {ρ : Nat → Option (Nat × Nat)} {m k l c : Nat} {u : Value} (h : Rel ρ (.slice (some ⟨m, k, none⟩) l c) u) : ∃ r o, ρ m = some (r, o) ∧ u = .slice (some ⟨r, o + k, none⟩) l c := by
  cases h with
  | plain h => simp [Vm.plain] at h
  | slice h => exact ⟨_, _, h, rfl⟩
theorem Rel.map_inv {ρ : Nat → Option (Nat × Nat)} {m : Nat} {u : Value} (h : Rel ρ (.map (some m)) u) : ∃ r, ρ m = some (r, 0) ∧ u = .map (some r) := by
  cases h with
  | plain h => simp [Vm.plain] at h
  | map h => exact ⟨_, h, rfl⟩
theorem Rel.func_inv {ρ : Nat → Option (Nat × Nat)} {fn : Fn} {a c : Array Value} {u : Value} (h : Rel ρ (.func fn a c) u) : ∃ a' c', u = .func fn a' c' ∧ RelA ρ a a' ∧ RelA ρ c c' := by
  cases h with
  | plain h =>
    simp only [Vm.plain, Bool.and_eq_true] at h
    exact ⟨a, c, rfl, RelA.refl_of_plain h.1, RelA.refl_of_plain h.2⟩
  | func h1 h2 h3 h4 => exact ⟨_, _, rfl, ⟨h1, h2⟩, ⟨h3, h4⟩⟩
theorem Rel.int_inv {ρ : Nat → Option (Nat × Nat)} {k : IntKind} {n : Int} {u : Value} (h : Rel ρ (.int k n) u) : u = .int k n := h.eq_of_plain rfl
theorem Rel.bool_inv {ρ : Nat → Option (Nat × Nat)} {b : Bool} {u : Value} (h : Rel ρ (.bool b) u) : u = .bool b := h.eq_of_plain rfl

theorem RelA.get {ρ : Nat → Option (Nat × Nat)} {c c' : Array Value} (h : RelA ρ c c') {i : Nat} {v : Value} (hv : c[i]? = some v) : ∃ v', c'[i]? = some v' ∧ Rel ρ v v' := by
  have hi : i < c.size := by
    rcases Nat.lt_or_ge i c.size with h' | h'
    · exact h'
    · rw [Array.getElem?_eq_none h'] at hv; cases hv
  have hi' : i < c'.size := h.1 ▸ hi
  exact ⟨c'[i], by simp [hi'], h.2 i v _ hv (by simp [hi'])⟩
theorem RelL.get {ρ : Nat → Option (Nat × Nat)} {c c' : List Value} (h : RelL ρ c c') {i : Nat} {v : Value} (hv : c[i]? = some v) : ∃ v', c'[i]? = some v' ∧ Rel ρ v v' := by
  have hi : i < c.length := by
    rcases Nat.lt_or_ge i c.length with h' | h'
    · exact h'
    · rw [List.getElem?_eq_none h'] at hv; cases hv
  have hi' : i < c'.length := h.1 ▸ hi
  exact ⟨c'[i], by simp [hi'], h.2 i v _ hv (by simp [hi'])⟩
theorem RelL.toA {ρ : Nat → Option (Nat × Nat)} {c c' : List Value} (h : RelL ρ c c') : RelA ρ c.toArray c'.toArray := ⟨by simpa using h.1, fun i v v' a b => h.2 i v v' (by simpa using a) (by simpa using b)⟩
theorem RelA.toL {ρ : Nat → Option (Nat × Nat)} {c c' : Array Value} (h : RelA ρ c c') : RelL ρ c.toList c'.toList := ⟨by simpa using h.1, fun i v v' a b => h.2 i v v' (by simpa using a) (by simpa using b)⟩

/-- One block of the virtual heap: a row of cells (own: written at will, known whole; else a window on a real block, only read), or an object that holds no address. -/
inductive Blk where
  | cells (c : List Value) (t : TypeId) (own : Bool)
  | obj (o : Obj)

def Blk.own : Blk → Bool
  | .cells _ _ b => b
  | .obj _ => true

/-- How a real block stands to a virtual one (o: where its window begins). -/
def RObj (ρ : Nat → Option (Nat × Nat)) (b : Blk) (o : Nat) (x : Option Obj) : Prop :=
  match b with
  | .cells c t true => ∃ c' : Array Value, x = some (.cells c' t (0, 0)) ∧ o = 0 ∧ RelL ρ c c'.toList
  | .cells c _ false => ∃ (c' : Array Value) (t' : TypeId) (fz : Nat × Nat), x = some (.cells c' t' fz) ∧ ∀ (i : Nat) (v : Value), c[i]? = some v → ∃ v', c'[o + i]? = some v' ∧ Rel ρ v v'
  | .obj ob => x = some ob ∧ o = 0

theorem RObj.ext {ρ ρ' : Nat → Option (Nat × Nat)} (he : Ext ρ ρ') {b : Blk} {o : Nat} {x : Option Obj} (h : RObj ρ b o x) : RObj ρ' b o x := by
  cases b with
  | cells c t own =>
    cases own with
    | true => obtain ⟨c', h1, h2, h3⟩ := h; exact ⟨c', h1, h2, h3.ext he⟩
    | false =>
      obtain ⟨c', t', fz, h1, h2⟩ := h
      exact ⟨c', t', fz, h1, fun i v hv => let ⟨v', a, b⟩ := h2 i v hv; ⟨v', a, b.ext he⟩⟩
  | obj ob => exact h

/-- A cell of a virtual block is a cell of the real one. -/
theorem RObj.cell {ρ : Nat → Option (Nat × Nat)} {c : List Value} {t : TypeId} {own : Bool} {o : Nat} {x : Option Obj} (h : RObj ρ (.cells c t own) o x) {i : Nat} {v : Value} (hv : c[i]? = some v) :
    ∃ (c' : Array Value) (t' : TypeId) (fz : Nat × Nat) (v' : Value), x = some (.cells c' t' fz) ∧ c'[o + i]? = some v' ∧ Rel ρ v v' := by
  cases own with
  | true =>
    obtain ⟨c', h1, rfl, h3⟩ := h
    obtain ⟨v', a, b⟩ := h3.get hv
    exact ⟨c', t, (0, 0), v', h1, by simpa using a, b⟩
  | false =>
    obtain ⟨c', t', fz, h1, h2⟩ := h
    obtain ⟨v', a, b⟩ := h2 i v hv
    exact ⟨c', t', fz, v', h1, a, b⟩

structure St where
  t : Nat → Value
  h : Nat → Option Blk
  n : Nat

def St.ev (s : St) : Operand → Value
  | .tmp k => s.t k
  | .const v => v
  | .global g => .pointer (some ⟨g, 0, none⟩)
  | .func f => .func (.func f) #[] #[]

/-- The heap's part: what each named block holds; own blocks may be written (M), and are no other name's. -/
structure RH (M : Nat → Prop) (ρ : Nat → Option (Nat × Nat)) (h : Nat → Option Blk) (w : World) : Prop where
  blk : ∀ m b, h m = some b → ∃ r o, ρ m = some (r, o) ∧ RObj ρ b o w.heap[r]? ∧ (b.own = true → M r)
  inj : ∀ m m' b b' r o r' o', h m = some b → h m' = some b' → m ≠ m' → b.own = true → ρ m = some (r, o) → ρ m' = some (r', o') → r ≠ r'
  new : ∀ r, w.heap.size ≤ r → M r

/-- What was there when the call began is as it was, but for the blocks of M. -/
structure Kept (M : Nat → Prop) (w0 w : World) : Prop where
  os : w.os = w0.os
  tape : w.tape = w0.tape
  output : w.output = w0.output
  size : w0.heap.size ≤ w.heap.size
  block : ∀ r, ¬ M r → w.heap[r]? = w0.heap[r]?

theorem Kept.refl (M : Nat → Prop) (w : World) : Kept M w w := ⟨rfl, rfl, rfl, Nat.le_refl _, fun _ _ => rfl⟩
theorem Kept.trans {M : Nat → Prop} {a b c : World} (h : Kept M a b) (k : Kept M b c) : Kept M a c :=
  ⟨k.os.trans h.os, k.tape.trans h.tape, k.output.trans h.output, Nat.le_trans h.size k.size, fun r hr => (k.block r hr).trans (h.block r hr)⟩
theorem Kept.mono {M M' : Nat → Prop} {a b : World} (h : Kept M a b) (hm : ∀ r, M r → M' r) : Kept M' a b :=
  ⟨h.os, h.tape, h.output, h.size, fun r hr => h.block r fun hm' => hr (hm r hm')⟩

/-- The frame and the world stand for the virtual state; 'fr': names that are still free. -/
structure RR (M : Nat → Prop) (w0 : World) (N : Nat) (fr : Nat → Prop) (ρ : Nat → Option (Nat × Nat)) (s : St) (a : Act) (w : World) : Prop where
  size : a.tmps.size = N
  defers : a.defers = []
  tmp : ∀ k, isJ (s.t k) = false → Rel ρ (s.t k) (a.tmps.getD k undef)
  heap : RH M ρ s.h w
  fresh : ∀ m, fr m → ρ m = none
  kept : Kept M w0 w

end Go.Proofs.Ytdfkcijholopoaa.Vm
namespace Go.Proofs.Ytdfkcijholopoaa.Vm
open Go

abbrev u0 : Value := .int .u64 0
abbrev i0 : Value := .int .i64 0
def falses : List Bool := List.replicate 256 false
theorem falses_length : falses.length = 256 := List.length_replicate
def bits0 : List Value := falses.map Value.bool
theorem bits0_length : bits0.length = 256 := by unfold bits0; rw [List.length_map, falses_length]

/-- Of a type: is it a struct or an array; its zero cells. -/
def ty (t : Nat) : Option (Bool × List Value) :=
  match t with
  | 2 => some (false, [i0])
  | 3 => some (false, [i0])
  | 4 => some (false, [.bool false])
  | 22 => some (false, [u0])
  | 24 => some (true, [u0, u0])
  | 26 => some (false, [i0])
  | 32 => some (true, bits0)
  | 53 => some (false, [.slice none 0 0])
  | 55 => some (true, [.slice none 0 0])
  | 58 => some (true, [u0, u0, u0])
  | 61 => some (false, [.slice none 0 0])
  | 67 => some (true, [i0, i0, u0, u0, u0])
  | 101 => some (true, [u0, i0])
  | 104 => some (true, [i0, i0])
  | 106 => some (true, [i0, i0, i0, u0, u0, u0, u0, .slice none 0 0, .bool false, i0, u0, i0])
  | 116 => some (true, [u0, u0, u0, u0, u0, u0, u0])
  | 140 => some (false, [.nilFunc])
  | 143 => some (false, [.nilFunc])
  | 147 => some (true, [u0, u0, u0])
  | 152 => some (false, [.nilFunc])
  | 155 => some (true, [u0, u0])
  | _ => none

/-- A struct's fields: where each begins, and its size. -/
def flds (t : Nat) : Option (List (Nat × Nat)) :=
  match t with
  | 24 => some [(0, 1), (1, 1)]
  | 55 => some [(0, 1)]
  | 58 => some [(0, 2), (2, 1)]
  | 67 => some [(0, 1), (1, 1), (2, 3)]
  | 101 => some [(0, 1), (1, 1)]
  | 106 => some [(0, 1), (1, 5), (6, 1), (7, 1), (8, 1), (9, 1), (10, 1), (11, 1)]
  | 147 => some [(0, 2), (2, 1)]
  | _ => none
/-- An array: how many; an element's type. -/
def arr (t : Nat) : Option (Nat × Nat) :=
  match t with
  | 32 => some (256, 4)
  | 104 => some (2, 2)
  | 116 => some (7, 22)
  | 155 => some (2, 22)
  | _ => none
/-- A slice's element type. -/
def sl (t : Nat) : Option Nat :=
  match t with
  | 40 => some 4
  | 53 => some 67
  | 61 => some 3
  | 83 => some 58
  | 110 => some 55
  | _ => none

noncomputable abbrev P : Program := Try.prog

def aggD : TypeDesc → Bool
  | .struct _ | .array _ _ => true
  | _ => false

structure TyOk (t : Nat) (ag : Bool) (z : List Value) : Prop where
  zero : ∀ w, ∃ zv, (zeroValue t).run P w = .ok zv w ∧ zv.cells = z.toArray
  agg : ∀ w, (isAgg t).run P w = .ok ag w
  size : ∀ w, (sizeOf t).run P w = .ok z.length w
  pl : plainL z = true
  cell : (z.all (·.oneCell')) = true
  pos : 0 < z.length
  one : ag = false → z.length = 1

theorem tyOk_of {t n : Nat} {ag : Bool} {z : List Value} {zv : Value} (hi : (P.info? t).map (fun i => (i.zero, i.size)) = some (some zv, n))
    (hu : (P.underlying t).map aggD = some ag) (hz : zv.cells = z.toArray) (hn : n = z.length) (hp : plainL z = true) (hc : (z.all (·.oneCell')) = true) (h0 : 0 < z.length) (h1 : ag = false → z.length = 1) : TyOk t ag z := by
  cases hq : P.info? t with
  | none => simp [hq] at hi
  | some i =>
    simp [hq] at hi
    refine ⟨fun w => ⟨zv, ?_, hz⟩, fun w => ?_, fun w => ?_, hp, hc, h0, h1⟩
    · simp [zeroValue, typeInfo, hq, hi]
    · cases hd : P.underlying t with
      | none => simp [hd] at hu
      | some d =>
        simp [hd] at hu
        unfold isAgg
        rw [Sem.run_bind, run_underlying hd w]
        subst hu
        cases d <;> simp [aggD]
    · simp [sizeOf, typeInfo, hq, hi, hn]

theorem ty2 : TyOk 2 false [i0] := tyOk_of (zv := i0) (n := 1) (by kernel_rfl) (by kernel_rfl) rfl rfl rfl rfl (by decide) (fun _ => rfl)
theorem ty3 : TyOk 3 false [i0] := tyOk_of (zv := i0) (n := 1) (by kernel_rfl) (by kernel_rfl) rfl rfl rfl rfl (by decide) (fun _ => rfl)
theorem ty4 : TyOk 4 false [.bool false] := tyOk_of (zv := .bool false) (n := 1) (by kernel_rfl) (by kernel_rfl) rfl rfl rfl rfl (by decide) (fun _ => rfl)
theorem ty22 : TyOk 22 false [u0] := tyOk_of (zv := u0) (n := 1) (by kernel_rfl) (by kernel_rfl) rfl rfl rfl rfl (by decide) (fun _ => rfl)
theorem ty24 : TyOk 24 true [u0, u0] := tyOk_of (zv := .agg #[u0, u0]) (n := 2) (by kernel_rfl) (by kernel_rfl) rfl rfl rfl rfl (by decide) (fun h => by cases h)
theorem ty26 : TyOk 26 false [i0] := tyOk_of (zv := i0) (n := 1) (by kernel_rfl) (by kernel_rfl) rfl rfl rfl rfl (by decide) (fun _ => rfl)
theorem plainL_bools (l : List Bool) : plainL (l.map Value.bool) = true := by
  rw [plainL_iff]; intro v hv; obtain ⟨b, _, rfl⟩ := List.mem_map.1 hv; rfl
theorem cell_bools (l : List Bool) : ((l.map Value.bool).all (·.oneCell')) = true := by simp [Value.oneCell']
theorem ty32 : TyOk 32 true bits0 := tyOk_of (zv := .agg bits0.toArray) (n := 256) (by kernel_rfl) (by kernel_rfl) rfl bits0_length.symm (plainL_bools _) (cell_bools _) (by rw [bits0_length]; decide) (fun h => by cases h)
theorem ty53 : TyOk 53 false [.slice none 0 0] := tyOk_of (zv := .slice none 0 0) (n := 1) (by kernel_rfl) (by kernel_rfl) rfl rfl rfl rfl (by decide) (fun _ => rfl)
theorem ty55 : TyOk 55 true [.slice none 0 0] := tyOk_of (zv := .agg #[.slice none 0 0]) (n := 1) (by kernel_rfl) (by kernel_rfl) rfl rfl rfl rfl (by decide) (fun h => by cases h)
theorem ty58 : TyOk 58 true [u0, u0, u0] := tyOk_of (zv := .agg #[u0, u0, u0]) (n := 3) (by kernel_rfl) (by kernel_rfl) rfl rfl rfl rfl (by decide) (fun h => by cases h)
theorem ty61 : TyOk 61 false [.slice none 0 0] := tyOk_of (zv := .slice none 0 0) (n := 1) (by kernel_rfl) (by kernel_rfl) rfl rfl rfl rfl (by decide) (fun _ => rfl)
theorem ty67 : TyOk 67 true [i0, i0, u0, u0, u0] := tyOk_of (zv := .agg #[i0, i0, u0, u0, u0]) (n := 5) (by kernel_rfl) (by kernel_rfl) rfl rfl rfl rfl (by decide) (fun h => by cases h)
theorem ty101 : TyOk 101 true [u0, i0] := tyOk_of (zv := .agg #[u0, i0]) (n := 2) (by kernel_rfl) (by kernel_rfl) rfl rfl rfl rfl (by decide) (fun h => by cases h)
theorem ty104 : TyOk 104 true [i0, i0] := tyOk_of (zv := .agg #[i0, i0]) (n := 2) (by kernel_rfl) (by kernel_rfl) rfl rfl rfl rfl (by decide) (fun h => by cases h)
theorem ty106 : TyOk 106 true [i0, i0, i0, u0, u0, u0, u0, .slice none 0 0, .bool false, i0, u0, i0] :=
  tyOk_of (zv := .agg #[i0, i0, i0, u0, u0, u0, u0, .slice none 0 0, .bool false, i0, u0, i0]) (n := 12) (by kernel_rfl) (by kernel_rfl) rfl rfl rfl rfl (by decide) (fun h => by cases h)
theorem ty116 : TyOk 116 true [u0, u0, u0, u0, u0, u0, u0] := tyOk_of (zv := .agg #[u0, u0, u0, u0, u0, u0, u0]) (n := 7) (by kernel_rfl) (by kernel_rfl) rfl rfl rfl rfl (by decide) (fun h => by cases h)
theorem ty140 : TyOk 140 false [.nilFunc] := tyOk_of (zv := .nilFunc) (n := 1) (by kernel_rfl) (by kernel_rfl) rfl rfl rfl rfl (by decide) (fun _ => rfl)
theorem ty143 : TyOk 143 false [.nilFunc] := tyOk_of (zv := .nilFunc) (n := 1) (by kernel_rfl) (by kernel_rfl) rfl rfl rfl rfl (by decide) (fun _ => rfl)
theorem ty147 : TyOk 147 true [u0, u0, u0] := tyOk_of (zv := .agg #[u0, u0, u0]) (n := 3) (by kernel_rfl) (by kernel_rfl) rfl rfl rfl rfl (by decide) (fun h => by cases h)
theorem ty152 : TyOk 152 false [.nilFunc] := tyOk_of (zv := .nilFunc) (n := 1) (by kernel_rfl) (by kernel_rfl) rfl rfl rfl rfl (by decide) (fun _ => rfl)
theorem ty155 : TyOk 155 true [u0, u0] := tyOk_of (zv := .agg #[u0, u0]) (n := 2) (by kernel_rfl) (by kernel_rfl) rfl rfl rfl rfl (by decide) (fun h => by cases h)

theorem ty_ok {t : Nat} {ag : Bool} {z : List Value} (h : ty t = some (ag, z)) : TyOk t ag z := by
  unfold ty at h
  split at h <;> first | (cases h; done) | (injection h with h; injection h with h1 h2; subst h1; subst h2; first | exact ty2 | exact ty3 | exact ty4 | exact ty22 | exact ty24 | exact ty26 | exact ty32 | exact ty53 | exact ty55 | exact ty58 | exact ty61 | exact ty67 | exact ty101 | exact ty104 | exact ty106 | exact ty116 | exact ty140 | exact ty143 | exact ty147 | exact ty152 | exact ty155)

end Go.Proofs.Ytdfkcijholopoaa.Vm
namespace Go.Proofs.Ytdfkcijholopoaa.Vm
open Go

/-- What an operation does: a value; a value read from block m; a new block, and the value that names it; block m written. -/
inductive Ef where
  | val (v : Value)
  | rd (m : Nat) (v : Value)
  | new (b : Blk) (p : Nat → Value)
  | set (m : Nat) (b : Blk)

def ptr (m : Nat) : Value := .pointer (some ⟨m, 0, none⟩)

def partAt (ag : Bool) (n : Nat) (c : List Value) (k : Nat) : Option Value :=
  match ag with
  | true => if k = 0 ∧ c.length = n then some (.agg c.toArray) else if k + n ≤ c.length then some (.agg ((c.drop k).take n).toArray) else none
  | false => c[k]?

def setAt (n : Nat) (c : List Value) (k : Nat) (v : Value) : Option (List Value) :=
  match v with
  | .agg cs =>
    if cs.size = n ∧ cs.toList.all (·.oneCell') = true then
      (if k = 0 ∧ c.length = n then some cs.toList else if k + n ≤ c.length then some (c.take k ++ cs.toList ++ c.drop (k + n)) else none)
    else none
  | v => if n = 1 ∧ v.oneCell' = true ∧ k < c.length then some (c.set k v) else none

def fillL (place : Nat → Option (Nat × Nat)) : List Value → List (Nat × Value) → Option (List Value)
  | c, [] => some c
  | c, (i, v) :: rest =>
    match place i with
    | none => none
    | some (off, sz) =>
      if v.cells.size = sz ∧ off + sz ≤ c.length then fillL place (c.take off ++ v.cells.toList ++ c.drop (off + sz)) rest else none

def zrow : Nat → List Value → List Value
  | 0, _ => []
  | n + 1, z => z ++ zrow n z

def ibin (op : BinOp) (k k' : IntKind) (a b : Int) : Option Value :=
  match op with
  | .shl => if b < 0 then none else some (.int k (k.wrap (a * 2 ^ (min b.toNat k.bits))))
  | .shr => if b < 0 then none else some (.int k (a.fdiv (2 ^ (min b.toNat k.bits))))
  | .add => if k = k' then some (.int k (k.wrap (a + b))) else none
  | .sub => if k = k' then some (.int k (k.wrap (a - b))) else none
  | .mul => if k = k' then some (.int k (k.wrap (a * b))) else none
  | .and => if k = k' then some (.int k (k.wrap (BitVec.ofInt k.bits a &&& BitVec.ofInt k.bits b).toNat)) else none
  | .or => if k = k' then some (.int k (k.wrap (BitVec.ofInt k.bits a ||| BitVec.ofInt k.bits b).toNat)) else none
  | .eql => if k = k' then some (.bool (a == b)) else none
  | .neq => if k = k' then some (.bool (a != b)) else none
  | .lss => if k = k' then some (.bool (a < b)) else none
  | .leq => if k = k' then some (.bool (a ≤ b)) else none
  | .gtr => if k = k' then some (.bool (a > b)) else none
  | .geq => if k = k' then some (.bool (a ≥ b)) else none
  | .quo => if k = k' then (if b = 0 then none else some (.int k (k.wrap (a.tdiv b)))) else none
  | .rem => if k = k' then (if b = 0 then none else some (.int k (a.tmod b))) else none
  | _ => none

def unB : List Value → Option (List Bool)
  | [] => some []
  | .bool b :: l => (unB l).map (b :: ·)
  | _ :: _ => none
theorem unB_bools (l : List Bool) : unB (l.map Value.bool) = some l := by
  induction l with
  | nil => rfl
  | cons b l ih => simp [unB, ih]
theorem unB_eq {c : List Value} {l : List Bool} (h : unB c = some l) : c = l.map Value.bool := by
  induction c generalizing l with
  | nil => simp [unB] at h; subst h; rfl
  | cons v c ih =>
    cases v <;> simp [unB] at h
    obtain ⟨l', h1, rfl⟩ := h
    simp [ih h1]

/-- Are two structs or arrays of type t the same? -/
def aeq (t : Nat) (c d : List Value) : Option Bool :=
  match t with
  | 24 => match c, d with
    | [.int .u64 a, .int .u64 b], [.int .u64 a', .int .u64 b'] => some (a == a' && b == b')
    | _, _ => none
  | 58 => match c, d with
    | [.int .u64 a, .int .u64 b, .int .u64 e], [.int .u64 a', .int .u64 b', .int .u64 e'] => some (a == a' && b == b' && e == e')
    | _, _ => none
  | 67 => match c, d with
    | [.int .i64 x, .int .i64 y, .int .u64 a, .int .u64 b, .int .u64 e], [.int .i64 x', .int .i64 y', .int .u64 a', .int .u64 b', .int .u64 e'] =>
      some (x == x' && y == y' && (a == a' && b == b' && e == e'))
    | _, _ => none
  | 32 => match unB c, unB d with
    | some l, some l' => if l.length = 256 ∧ l'.length = 256 then some (l == l') else none
    | _, _ => none
  | 116 => match c, d with
    | [.int .u64 a, .int .u64 b, .int .u64 e, .int .u64 f, .int .u64 g, .int .u64 i, .int .u64 j], [.int .u64 a', .int .u64 b', .int .u64 e', .int .u64 f', .int .u64 g', .int .u64 i', .int .u64 j'] =>
      some (a == a' && b == b' && e == e' && f == f' && g == g' && i == i' && j == j')
    | _, _ => none
  | _ => none

def vbin (op : BinOp) (t : Nat) (x y : Value) : Option Value :=
  match x, y with
  | .int k a, .int k' b => ibin op k k' a b
  | .bool a, .bool b => if t = 4 then (match op with | .eql => some (.bool (a == b)) | .neq => some (.bool !(a == b)) | _ => none) else none
  | .agg c, .agg d => (aeq t c.toList d.toList).bind fun r => match op with | .eql => some (.bool r) | .neq => some (.bool !r) | _ => none
  | .slice a _ _, .slice none _ _ => if t = 53 then (match op with | .eql => some (.bool a.isNone) | .neq => some (.bool !a.isNone) | _ => none) else none
  | _, _ => none

def vindex (len sz : Nat) (k : Nat) (m : Nat) (n : Int) : Option Value :=
  if 0 ≤ n ∧ n < len then some (.pointer (some ⟨m, k + n.toNat * sz, none⟩)) else none

def ikind (t : Nat) : Option IntKind :=
  match t with
  | 2 => some .i64
  | 3 => some .i64
  | 21 => some .i32
  | 22 => some .u64
  | 123 => some .u64
  | _ => none

/-- The bounds of a slicing: low, high, max. -/
def sbounds (len cap : Nat) (lo hi mx : Option Value) : Option (Nat × Nat × Nat) :=
  let bound (v : Value) (y : Nat) : Option Nat := match v with | .int _ i => if 0 ≤ i ∧ i ≤ y then some i.toNat else none | _ => none
  (match mx with | some v => bound v cap | none => some cap).bind fun m =>
  (match hi, mx with | some v, some _ => bound v m | some v, none => bound v cap | none, none => some len | none, some _ => none).bind fun h =>
  (match lo with | some v => bound v h | none => some 0).bind fun l => some (l, h, m)

/-- What a map from whole numbers to bools holds at n. -/
def lkv (es : Array MapEntry) (n : Int) : Option Value :=
  match Instr.findNow (.int .i64) (.int .i64 n) es.toList 0 with
  | some none => some (.bool false)
  | some (some (_, v)) => match plain v with
    | true => some v
    | false => none
  | none => none
def lkm (es : Obj) (n : Int) : Option Value :=
  match es with
  | .map es _ => lkv es n
  | _ => none

def vex (ev : Operand → Value) (h : Nat → Option Blk) : Op → Option Ef
  | .move x => some (.val (ev x))
  | .assign x => some (.val (ev x))
  | .pick c a b => match ev c with
    | .bool t => some (.val (match t with | true => ev a | false => ev b))
    | _ => none
  | .alloc t => match ty t with
    | some (_, z) => some (.new (.cells z t true) ptr)
    | none => none
  | .box t x => some (.new (.cells (ev x).cells.toList t true) ptr)
  | .build t parts => match ty t, flds t, arr t with
    | some (_, z), some l, _ => (fillL (l[·]?) z (parts.toList.map fun (i, x) => (i, ev x))).map fun c => .val (.agg c.toArray)
    | some (_, z), none, some (_, e) => match ty e with
      | some (_, ze) => (fillL (fun i => some (i * ze.length, ze.length)) z (parts.toList.map fun (i, x) => (i, ev x))).map fun c => .val (.agg c.toArray)
      | none => none
    | _, _, _ => none
  | .buildSlice t n parts => match sl t with
    | some e => match ty e with
      | some (_, z) => if n * z.length ≤ 1000 then
          (fillL (fun i => some (i * z.length, z.length)) (zrow n z) (parts.toList.map fun (i, x) => (i, ev x))).map fun c => .new (.cells c e true) fun m => .slice (some ⟨m, 0, none⟩) n n
        else none
      | none => none
    | none => none
  | .load t x => match ev x, ty t with
    | .pointer (some ⟨m, k, none⟩), some (ag, z) => match h m with
      | some (.cells c _ _) => (partAt ag z.length c k).map (Ef.rd m)
      | _ => none
    | _, _ => none
  | .lookup 65 x i false => match ev x, ev i with
    | .map (some m), .int .i64 n => match h m with
      | some (.obj ob) => (lkm ob n).map (Ef.rd m)
      | _ => none
    | _, _ => none
  | .store t x y => match ev x, ty t with
    | .pointer (some ⟨m, k, none⟩), some (_, z) => match h m with
      | some (.cells c e true) => (setAt z.length c k (ev y)).map fun c' => Ef.set m (.cells c' e true)
      | _ => none
    | _, _ => none
  | .nilCheck x => match ev x with
    | .pointer (some a) => some (.val (.pointer (some a)))
    | .func (.func f) a c => some (.val (.func (.func f) a c))
    | _ => none
  | .binOp op t x y _ => (vbin op t (ev x) (ev y)).map .val
  | .unOp .not _ x => match ev x with
    | .bool b => some (.val (.bool !b))
    | _ => none
  | .unOp .neg _ x => match ev x with
    | .int k n => some (.val (.int k (k.wrap (0 - n))))
    | _ => none
  | .convert t0 t x => match ev x, ikind t0, ikind t with
    | .int _ n, some _, some k => some (.val (.int k (k.wrap n)))
    | _, _, _ => none
  | .makeFunc fn first captured => some (.val (.func fn (first.toList.map ev).toArray (captured.toList.map ev).toArray))
  | .fieldAddr t x f => match ev x, flds t with
    | .pointer (some ⟨m, k, none⟩), some l => match l[f]? with
      | some (off, _) => some (.val (.pointer (some ⟨m, k + off, none⟩)))
      | none => none
    | _, _ => none
  | .indexAddr t x i => match ev x, ev i with
    | .pointer (some ⟨m, k, none⟩), .int _ n => match arr t with
      | some (len, e) => match ty e with
        | some (_, z) => (vindex len z.length k m n).map .val
        | none => none
      | none => none
    | .slice (some ⟨m, k, none⟩) len _, .int _ n => match sl t with
      | some e => match ty e with
        | some (_, z) => (vindex len z.length k m n).map .val
        | none => none
      | none => none
    | _, _ => none
  | .index t x i => match ev x, ev i, arr t with
    | .agg cs, .int _ n, some (len, e) => match ty e with
      | some (false, _) => if 0 ≤ n ∧ n < len then (cs.toList[n.toNat]?).map .val else none
      | _ => none
    | _, _, _ => none
  | .slice t x lo hi mx => match ev x, sl t with
    | .slice a len cap, some e => match ty e with
      | some (_, z) => (sbounds len cap (lo.map ev) (hi.map ev) (mx.map ev)).map fun (l, h, m) =>
          .val (.slice (if m = l then a else a.map fun b => ⟨b.block, b.off + l * z.length, none⟩) (h - l) (m - l))
      | none => none
    | _, _ => none
  | .extract x i => match ev x with
    | .tuple vs => (vs.toList[i]?).map .val
    | _ => none
  | .call { callee := .builtin .len, args := ⟨[x]⟩, argTypes := ⟨[t]⟩ } => match ev x, sl t with
    | .slice _ n _, some _ => some (.val (.int .i64 n))
    | _, _ => none
  | .call { callee := .builtin .cap, args := ⟨[x]⟩, argTypes := ⟨[t]⟩ } => match ev x, sl t with
    | .slice _ _ n, some _ => some (.val (.int .i64 n))
    | _, _ => none
  | .call { callee := .builtin .min, args := ⟨[x, y]⟩, argTypes := _ } => match ev x, ev y with
    | .int k a, .int _ b => some (.val (.int k (if b < a then b else a)))
    | _, _ => none
  | _ => none

end Go.Proofs.Ytdfkcijholopoaa.Vm
namespace Go.Proofs.Ytdfkcijholopoaa.Vm
open Go

theorem Rel.of_int {ρ : Nat → Option (Nat × Nat)} {k : IntKind} {n : Int} {v : Value} (h : Rel ρ v (.int k n)) : v = .int k n := by
  cases h; rfl

theorem Rel.oneCell {ρ : Nat → Option (Nat × Nat)} {v u : Value} (h : Rel ρ v u) : u.oneCell' = v.oneCell' := by cases h <;> rfl
theorem Rel.cells {ρ : Nat → Option (Nat × Nat)} {v u : Value} (h : Rel ρ v u) : RelA ρ v.cells u.cells := by
  by_cases hv : ∃ c, v = .agg c
  · obtain ⟨c, rfl⟩ := hv
    obtain ⟨c', rfl, hc⟩ := h.agg_inv
    exact hc
  · have hu : ¬ ∃ c, u = .agg c := by
      rintro ⟨c, rfl⟩
      cases h with
      | plain _ => exact hv ⟨_, rfl⟩
      | agg _ _ => exact hv ⟨_, rfl⟩
    have h1 : v.cells = #[v] := by cases v <;> first | rfl | exact absurd ⟨_, rfl⟩ hv
    have h2 : u.cells = #[u] := by cases u <;> first | rfl | exact absurd ⟨_, rfl⟩ hu
    rw [h1, h2]
    refine ⟨rfl, fun i x y hx hy => ?_⟩
    cases i with
    | zero => simp at hx hy; subst hx; subst hy; exact h
    | succ i => simp at hx

theorem RelL.append {ρ : Nat → Option (Nat × Nat)} {a b a' b' : List Value} (h : RelL ρ a a') (k : RelL ρ b b') : RelL ρ (a ++ b) (a' ++ b') := by
  refine ⟨by simp [h.1, k.1], fun i v v' hv hv' => ?_⟩
  rw [List.getElem?_append] at hv hv'
  by_cases hi : i < a.length
  · rw [if_pos hi] at hv; rw [if_pos (h.1 ▸ hi)] at hv'; exact h.2 i v v' hv hv'
  · rw [if_neg hi] at hv; rw [if_neg (h.1 ▸ hi)] at hv'; rw [← h.1] at hv'; exact k.2 _ v v' hv hv'
theorem RelL.take {ρ : Nat → Option (Nat × Nat)} {a a' : List Value} (h : RelL ρ a a') (n : Nat) : RelL ρ (a.take n) (a'.take n) := by
  refine ⟨by simp [h.1], fun i v v' hv hv' => ?_⟩
  rw [List.getElem?_take] at hv hv'
  split at hv
  · rename_i hi; rw [if_pos hi] at hv'; exact h.2 i v v' hv hv'
  · cases hv
theorem RelL.drop {ρ : Nat → Option (Nat × Nat)} {a a' : List Value} (h : RelL ρ a a') (n : Nat) : RelL ρ (a.drop n) (a'.drop n) := by
  refine ⟨by simp [h.1], fun i v v' hv hv' => ?_⟩
  rw [List.getElem?_drop] at hv hv'
  exact h.2 _ v v' hv hv'
theorem RelL.refl_of_plain {ρ : Nat → Option (Nat × Nat)} {c : List Value} (h : plainL c = true) : RelL ρ c c :=
  ⟨rfl, fun i v v' a b => by rw [a] at b; cases b; exact .plain ((plainL_iff c).1 h v (List.mem_of_getElem? a))⟩
theorem RelL.all_oneCell {ρ : Nat → Option (Nat × Nat)} {a a' : List Value} (h : RelL ρ a a') (ha : a.all (·.oneCell') = true) : ∀ v ∈ a', v.oneCell' = true := by
  intro v hv
  obtain ⟨i, hi⟩ := List.getElem?_of_mem hv
  have hlt : i < a.length := by rw [h.1]; exact (List.getElem?_eq_some_iff.1 hi).1
  have h1 := h.2 i a[i] v (by simp [hlt]) hi
  rw [h1.oneCell]
  exact List.all_eq_true.1 ha _ (List.getElem_mem hlt)
theorem RelL.set {ρ : Nat → Option (Nat × Nat)} {a a' : List Value} {v v' : Value} (h : RelL ρ a a') (hv : Rel ρ v v') (k : Nat) : RelL ρ (a.set k v) (a'.set k v') := by
  refine ⟨by simp [h.1], fun i x x' hx hx' => ?_⟩
  rw [List.getElem?_set] at hx hx'
  by_cases hk : k = i
  · subst hk
    rw [if_pos rfl] at hx hx'
    split at hx
    · split at hx'
      · cases hx; cases hx'; exact hv
      · cases hx'
    · cases hx
  · rw [if_neg hk] at hx hx'
    exact h.2 i x x' hx hx'
theorem set_eq_splice (l : List Value) (k : Nat) (v : Value) (h : k < l.length) : l.set k v = l.take k ++ [v] ++ l.drop (k + 1) := by
  rw [List.set_eq_take_append_cons_drop, if_pos h]
  simp

theorem addr_add (r o n : Nat) : (⟨r, o, none⟩ : Addr).add n = ⟨r, o + n, none⟩ := by unfold Addr.add; split <;> simp_all

theorem fillL_rel {ρ : Nat → Option (Nat × Nat)} (place : Nat → Option (Nat × Nat)) : ∀ (ps ps' : List (Nat × Value)) (c c' d : List Value), ps.length = ps'.length →
    (∀ (i : Nat) (p p' : Nat × Value), ps[i]? = some p → ps'[i]? = some p' → p.1 = p'.1 ∧ Rel ρ p.2 p'.2) → RelL ρ c c' → fillL place c ps = some d → ∃ d', fillL place c' ps' = some d' ∧ RelL ρ d d'
  | [], [], c, c', d, _, _, hc, h => by simp [fillL] at h; subst h; exact ⟨c', rfl, hc⟩
  | [], _ :: _, _, _, _, hl, _, _, _ => by simp at hl
  | _ :: _, [], _, _, _, hl, _, _, _ => by simp at hl
  | (i, v) :: ps, (i', v') :: ps', c, c', d, hl, hp, hc, h => by
    obtain ⟨h1, h2⟩ := hp 0 (i, v) (i', v') rfl rfl
    simp only at h1 h2
    subst h1
    have hcl := h2.cells
    unfold fillL at h ⊢
    cases hpl : place i with
    | none => simp [hpl] at h
    | some x =>
      obtain ⟨off, sz⟩ := x
      simp only [hpl] at h ⊢
      split at h
      · rename_i hb
        rw [if_pos ⟨by rw [← hcl.1]; exact hb.1, by rw [← hc.1]; exact hb.2⟩]
        exact fillL_rel place ps ps' _ _ d (by simpa using hl) (fun j p p' a b => hp (j + 1) p p' (by simpa using a) (by simpa using b)) (((hc.take _).append hcl.toL).append (hc.drop _)) h
      · cases h

theorem foldl_set (off : Nat) : ∀ (vs : List Value) (j : Nat) (c : Array Value), off + j + vs.length ≤ c.size →
    (((vs.zipIdx j).foldl (fun cs (x : Value × Nat) => cs.setIfInBounds (off + x.2) x.1) c)).toList = c.toList.take (off + j) ++ vs ++ c.toList.drop (off + j + vs.length)
  | [], j, c, _ => by simp
  | v :: vs, j, c, h => by
    simp only [List.zipIdx_cons, List.foldl_cons]
    rw [foldl_set off vs (j + 1) _ (by simp at h ⊢; omega)]
    have e := list_seg_step c.toList (off + j) v vs (by simp at h ⊢; omega)
    simpa [Array.toList_setIfInBounds, Nat.add_assoc] using e

theorem fill_eq (place : Nat → Option (Nat × Nat)) : ∀ (ps : List (Nat × Value)) (c : Array Value) (d : List Value), fillL place c.toList ps = some d → Instr.fill place c ps = some d.toArray
  | [], c, d, h => by simp [fillL] at h; simp [Instr.fill, ← h]
  | (i, v) :: ps, c, d, h => by
    unfold fillL at h
    unfold Instr.fill
    cases hpl : place i with
    | none => simp [hpl] at h
    | some x =>
      obtain ⟨off, sz⟩ := x
      simp only [hpl] at h ⊢
      split at h
      · rename_i hb
        have hb2 : off + v.cells.size ≤ c.size := by have := hb.2; simp at this; omega
        have hcond : (v.cells.size ≠ sz || decide (off + v.cells.size > c.size)) = false := by
          simp [hb.1]; have := hb.1; omega
        have hcond' : ¬ ((decide (v.cells.size ≠ sz) || decide (off + v.cells.size > c.size)) = true) := by
          simp; have := hb.1; omega
        rw [if_neg hcond']
        apply fill_eq place ps
        have hf := foldl_set off v.cells.toList 0 c (by simp; omega)
        rw [← Array.foldl_toList, Array.toList_zipIdx]
        simp only [Nat.add_zero] at hf
        rw [hf]
        rw [← h, hb.1.symm]
        simp
      · cases h

theorem zrow_rel {ρ : Nat → Option (Nat × Nat)} (n : Nat) (z : List Value) (hz : plainL z = true) (h0 : 0 < z.length) :
    RelL ρ (zrow n z) ((Array.range (n * z.length)).map (z.toArray[· % z.toArray.size]!)).toList := by
  have hl : ∀ n, (zrow n z).length = n * z.length := by
    intro n
    induction n with
    | zero => simp [zrow]
    | succ n ih => simp [zrow, ih, Nat.succ_mul, Nat.add_comm]
  have hg : ∀ n i, i < n * z.length → (zrow n z)[i]? = z[i % z.length]? := by
    intro n
    induction n with
    | zero => intro i hi; simp at hi
    | succ n ih =>
      intro i hi
      simp only [zrow]
      rw [List.getElem?_append]
      by_cases h : i < z.length
      · rw [if_pos h, Nat.mod_eq_of_lt h]
      · rw [if_neg h, ih _ (by rw [Nat.succ_mul] at hi; omega)]
        rw [Nat.mod_eq_sub_mod (Nat.le_of_not_lt h)]
  refine ⟨by simp [hl], fun i v v' hv hv' => ?_⟩
  have hi : i < n * z.length := by rw [← hl]; exact (List.getElem?_eq_some_iff.1 hv).1
  rw [hg n i hi] at hv
  have hm : i % z.length < z.length := Nat.mod_lt _ h0
  have : v' = v := by
    simp at hv'
    obtain ⟨j, hj, hjv⟩ := hv'
    rw [List.getElem?_range hi] at hj
    cases hj
    rw [hv] at hjv
    exact hjv.symm
  subst this
  exact .plain ((plainL_iff z).1 hz _ (List.mem_of_getElem? hv))

/-- What 'vex' says of an operation is what the machine does. -/
def EfOk (M : Nat → Prop) (ρ : Nat → Option (Nat × Nat)) (h : Nat → Option Blk) (o : Oper) (a : Act) (w : World) : Ef → Prop
  | .val v => ∃ v', (execOp a.eval o).run P w = .ok (.value v') w ∧ Rel ρ v v'
  | .rd _ v => ∃ v', (execOp a.eval o).run P w = .ok (.value v') w ∧ Rel ρ v v'
  | .new b p => b.own = true ∧ ∃ v' ob, (execOp a.eval o).run P w = .ok (.value v') (w.alloc ob) ∧
      ∀ ρ' m, Ext ρ ρ' → ρ' m = some (w.heap.size, 0) → Rel ρ' (p m) v' ∧ RObj ρ' b 0 (some ob)
  | .set m b => b.own = true ∧ (∃ b0, h m = some b0 ∧ b0.own = true) ∧ ∃ r c', ρ m = some (r, 0) ∧ M r ∧ r < w.heap.size ∧ (execOp a.eval o).run P w = .ok .skip (w.setRow r c') ∧ RObj ρ b 0 (w.setRow r c').heap[r]?

/-- A struct's fields, as the model has them. -/
noncomputable def fieldsOf' (t : Nat) : Option (List (Nat × Nat)) :=
  (P.underlying t).bind fun d => match d with
    | .struct fs => some (fs.toList.map fun f => (f.offset, P.cellsOf f.type))
    | _ => none
theorem fld24 : fieldsOf' 24 = some [(0, 1), (1, 1)] := by kernel_rfl
theorem fld55 : fieldsOf' 55 = some [(0, 1)] := by kernel_rfl
theorem fld58 : fieldsOf' 58 = some [(0, 2), (2, 1)] := by kernel_rfl
theorem fld67 : fieldsOf' 67 = some [(0, 1), (1, 1), (2, 3)] := by kernel_rfl
theorem fld101 : fieldsOf' 101 = some [(0, 1), (1, 1)] := by kernel_rfl
theorem fld106 : fieldsOf' 106 = some [(0, 1), (1, 5), (6, 1), (7, 1), (8, 1), (9, 1), (10, 1), (11, 1)] := by kernel_rfl
theorem fld147 : fieldsOf' 147 = some [(0, 2), (2, 1)] := by kernel_rfl
theorem flds_pos {t : Nat} {l : List (Nat × Nat)} (h : flds t = some l) : fieldsOf' t = some l ∧ (∀ x ∈ l, 0 < x.2) := by
  unfold flds at h
  split at h <;> cases h
  · exact ⟨fld24, by simp⟩
  · exact ⟨fld55, by simp⟩
  · exact ⟨fld58, by simp⟩
  · exact ⟨fld67, by simp⟩
  · exact ⟨fld101, by simp⟩
  · exact ⟨fld106, by simp⟩
  · exact ⟨fld147, by simp⟩
theorem info_of_pos {P : Program} {t : Nat} (h : 0 < P.cellsOf t) : ∃ i, P.info? t = some i := by
  unfold Program.cellsOf at h
  generalize P.info? t = x at h
  cases x with
  | none => simp at h
  | some i => exact ⟨i, rfl⟩
theorem flds_ok {t : Nat} {l : List (Nat × Nat)} (h : flds t = some l) : ∃ fs : Array Field, P.underlying t = some (.struct fs) ∧ fs.toList.map (fun f => (f.offset, P.cellsOf f.type)) = l ∧ ∀ f ∈ fs.toList, ∀ w, (sizeOf f.type).run P w = .ok (P.cellsOf f.type) w ∧ 0 < P.cellsOf f.type := by
  obtain ⟨h1, h2⟩ := flds_pos h
  unfold fieldsOf' at h1
  cases hu : P.underlying t with
  | none => rw [hu] at h1; cases h1
  | some d =>
    rw [hu, Option.bind_some] at h1
    cases d with
    | struct fs =>
      replace h1 := Option.some.inj h1
      refine ⟨fs, rfl, h1, fun f hf w => ?_⟩
      have hm := List.mem_map_of_mem (f := fun f : Field => (f.offset, P.cellsOf f.type)) hf
      rw [h1] at hm
      have hpos := h2 _ hm
      dsimp only at hpos
      refine ⟨?_, hpos⟩
      obtain ⟨i, hi⟩ := info_of_pos hpos
      have hc : P.cellsOf f.type = i.size := by unfold Program.cellsOf; rw [hi]; rfl
      rw [hc]
      simp only [sizeOf, typeInfo, Sem.run_bind, run_program, Result.andThen_ok, hi, Sem.run_pure]
    | _ => cases h1

theorem arr_ok {t n e : Nat} (h : arr t = some (n, e)) : P.underlying t = some (.array n e) := by
  unfold arr at h
  split at h <;> cases h <;> kernel_rfl
theorem sl_ok {t e : Nat} (h : sl t = some e) : P.underlying t = some (.slice e) := by
  unfold sl at h
  split at h <;> cases h <;> kernel_rfl
theorem ikind_ok {t : Nat} {k : IntKind} (h : ikind t = some k) : P.underlying t = some (.int k) := by
  unfold ikind at h
  split at h <;> cases h <;> kernel_rfl

theorem asIntOf_int (k : IntKind) (n : Int) (w : World) : (asIntOf (.int k n)).run P w = .ok (k, n) w := rfl

section ops
variable {M : Nat → Prop} {ρ : Nat → Option (Nat × Nat)} {h : Nat → Option Blk} {w : World} {a : Act} {ev : Operand → Value}

theorem partAt_sound {t : Nat} {ag : Bool} {z : List Value} (ht : TyOk t ag z) {c : List Value} {k r o : Nat} {e : TypeId} {own : Bool} (hc : RObj ρ (.cells c e own) o w.heap[r]?) {v : Value}
    (hv : partAt ag z.length c k = some v) : ∃ v', (loadVar t ⟨r, o + k, none⟩).run P w = .ok v' w ∧ Rel ρ v v' := by
  have cell : ∀ (j : Nat) (x : Value), c[j]? = some x → ∃ x', w.cell? ⟨r, o + j, none⟩ = some x' ∧ Rel ρ x x' := by
    intro j x hx
    obtain ⟨c', t', fz, v', h1, h2, h3⟩ := hc.cell hx
    exact ⟨v', by rw [cell_of_row w r (o + j) c' t' fz h1]; exact h2, h3⟩
  cases ag with
  | false =>
    obtain ⟨v', h1, h2⟩ := cell k v hv
    refine ⟨v', ?_, h2⟩
    simp only [loadVar, Sem.run_bind, ht.agg w, Result.andThen_ok, Bool.false_eq_true, if_false, run_load, h1]
  | true =>
    -- the cells from k on
    have main : ∀ (d : List Value), d.length = z.length → (∀ (j : Nat) (x : Value), d[j]? = some x → c[k + j]? = some x) → ∃ v', (loadVar t ⟨r, o + k, none⟩).run P w = .ok v' w ∧ Rel ρ (.agg d.toArray) v' := by
      intro d hd hdc
      have hex : ∃ d' : List Value, d'.length = d.length ∧ (∀ (j : Nat) (x' : Value), d'[j]? = some x' → w.cell? ⟨r, o + k + j, none⟩ = some x') ∧ RelL ρ d d' := by
        refine ⟨(List.range d.length).map fun j => (w.cell? ⟨r, o + k + j, none⟩).getD undef, by simp, ?_, by simp, ?_⟩
        · intro j x' hj
          simp at hj
          obtain ⟨j', hj', rfl⟩ := hj
          have hlt : j < d.length := by
            rcases Nat.lt_or_ge j d.length with h' | h'
            · exact h'
            · rw [List.getElem?_eq_none (by simpa using h')] at hj'; cases hj'
          rw [List.getElem?_range hlt] at hj'
          cases hj'
          obtain ⟨x', h1, _⟩ := cell (k + j) d[j] (hdc j _ (by simp [hlt]))
          rw [Nat.add_assoc, h1]; rfl
        · intro j x x' hj hj'
          have hlt : j < d.length := (List.getElem?_eq_some_iff.1 hj).1
          simp only [List.getElem?_map, List.getElem?_range hlt, Option.map_some, Option.some.injEq] at hj'
          obtain ⟨y, h1, h2⟩ := cell (k + j) x (hdc j x hj)
          rw [Nat.add_assoc, h1] at hj'
          simp at hj'
          exact hj' ▸ h2
      obtain ⟨d', hl', hcells, hrel⟩ := hex
      refine ⟨.agg d'.toArray, ?_, Rel.agg' hrel.toA⟩
      have hrun := run_loadCells_list (P := P) w ⟨r, o + k, none⟩ d' (fun j x hx => by rw [addr_add]; exact hcells j x hx)
      simp only [loadVar, Sem.run_bind, ht.agg w, Result.andThen_ok, if_true, ht.size w]
      rw [← hd, ← hl', hrun]
      rfl
    simp only [partAt] at hv
    split at hv
    · rename_i hk
      obtain ⟨rfl, hl⟩ := hk
      cases hv
      exact main c hl (fun j x hx => by simpa using hx)
    · split at hv
      · rename_i hk
        cases hv
        exact main _ (by simp; omega) (fun j x hx => by
          rw [List.getElem?_take] at hx
          split at hx
          · rw [List.getElem?_drop] at hx; exact hx
          · cases hx)
      · cases hv

theorem setAt_sound {t : Nat} {ag : Bool} {z : List Value} (ht : TyOk t ag z) {c c' : List Value} {k r : Nat} {e : TypeId} {v v' : Value} {d : Array Value} (hd : w.heap[r]? = some (.cells d e (0, 0))) (hc : RelL ρ c d.toList)
    (hv : Rel ρ v v') (hs : setAt z.length c k v = some c') : ∃ d' : Array Value, (storeVar t ⟨r, k, none⟩ v').run P w = .ok () (w.setRow r d') ∧ RelL ρ c' d'.toList := by
  have hcs := hv.cells
  -- whatever the value, its cells are spliced in
  have main : v.cells.size = z.length → v.cells.toList.all (·.oneCell') = true → k + z.length ≤ c.length → c' = c.take k ++ v.cells.toList ++ c.drop (k + z.length) →
      ∃ d' : Array Value, (storeVar t ⟨r, k, none⟩ v').run P w = .ok () (w.setRow r d') ∧ RelL ρ c' d'.toList := by
    intro h1 h2 h3 h4
    have hrun := run_storeCells_at P r k e v'.cells.toList 0 d w hd (by have := hc.1; have := hcs.1; simp at *; omega) (hcs.toL.all_oneCell h2)
    refine ⟨(d.toList.take (k + 0) ++ v'.cells.toList ++ d.toList.drop (k + 0 + v'.cells.toList.length)).toArray, ?_, ?_⟩
    · simp only [storeVar, Sem.run_bind, ht.size w, Result.andThen_ok]
      rw [if_neg (by have := hcs.1; omega)]
      exact hrun
    · have e : v'.cells.toList.length = z.length := by have := hcs.1; simp; omega
      rw [h4, e]
      simp only [Nat.add_zero]
      exact ((hc.take k).append hcs.toL).append (hc.drop _)
  by_cases ha : ∃ cs, v = .agg cs
  · obtain ⟨cs, rfl⟩ := ha
    simp only [setAt] at hs
    split at hs
    · rename_i hk
      split at hs
      · rename_i hk2
        obtain ⟨rfl, hl⟩ := hk2
        cases hs
        exact main hk.1 hk.2 (by omega) (by simp [← hl, Value.cells])
      · split at hs
        · rename_i hk2
          cases hs
          exact main hk.1 hk.2 hk2 rfl
        · cases hs
    · cases hs
  · have hcells : v.cells = #[v] := by cases v <;> first | rfl | exact absurd ⟨_, rfl⟩ ha
    have hs' : (if z.length = 1 ∧ v.oneCell' = true ∧ k < c.length then some (c.set k v) else none) = some c' := by
      cases v <;> first | exact hs | exact absurd ⟨_, rfl⟩ ha
    split at hs'
    · rename_i hk
      cases hs'
      refine main (by rw [hcells]; exact hk.1.symm) (by rw [hcells]; simpa using hk.2.1) (by omega) ?_
      rw [hcells, set_eq_splice c k v hk.2.2, hk.1]
    · cases hs'

end ops

end Go.Proofs.Ytdfkcijholopoaa.Vm
namespace Go.Proofs.Ytdfkcijholopoaa.Vm
open Go

theorem sl_run {t e : Nat} (h : sl t = some e) (w : World) : (underlying t).run P w = .ok (.slice e) w := run_underlying (sl_ok h) w
theorem arr_run {t n e : Nat} (h : arr t = some (n, e)) (w : World) : (underlying t).run P w = .ok (.array n e) w := run_underlying (arr_ok h) w

theorem und22 : P.underlying 22 = some (.int .u64) := by kernel_rfl
theorem und3 : P.underlying 3 = some (.int .i64) := by kernel_rfl
theorem und4 : P.underlying 4 = some .bool := by kernel_rfl

theorem part_one {t : Nat} {z : List Value} (ht : TyOk t false z) {cs : Array Value} {k : Nat} {v : Value} (hv : cs[k]? = some v) (w : World) : (part t cs k).run P w = .ok v w := by
  simp [part, ht.agg w, hv]
theorem part_agg {t : Nat} {z : List Value} (ht : TyOk t true z) (cs : Array Value) (k : Nat) (w : World) : (part t cs k).run P w = .ok (.agg (cs.extract k (k + z.length))) w := by
  simp [part, ht.agg w, ht.size w]

theorem eqI22 (d : Nat) (a b : Int) (w : World) : (Op.equalIn (d + 1) 22 (.int .u64 a) (.int .u64 b)).run P w = .ok (a == b) w := run_equalIn_int w d 22 .u64 .u64 a b und22
theorem eqI3 (d : Nat) (a b : Int) (w : World) : (Op.equalIn (d + 1) 3 (.int .i64 a) (.int .i64 b)).run P w = .ok (a == b) w := run_equalIn_int w d 3 .i64 .i64 a b und3
theorem eqI4 (d : Nat) (a b : Bool) (w : World) : (Op.equalIn (d + 1) 4 (.bool a) (.bool b)).run P w = .ok (a == b) w := run_equalIn_bool' w d 4 a b und4

def fl24 : List Field := [{ name := "Hi", type := 22, offset := 0, embedded := false, tag := "", pkgPath := "", byteOffset := 0 }, { name := "Lo", type := 22, offset := 1, embedded := false, tag := "", pkgPath := "", byteOffset := 8 }]
def fl58 : List Field := [{ name := "N", type := 24, offset := 0, embedded := false, tag := "", pkgPath := "", byteOffset := 0 }, { name := "W", type := 22, offset := 2, embedded := false, tag := "", pkgPath := "", byteOffset := 16 }]
def fl67 : List Field := [{ name := "Id", type := 3, offset := 0, embedded := false, tag := "", pkgPath := "", byteOffset := 0 }, { name := "Each", type := 3, offset := 1, embedded := false, tag := "", pkgPath := "", byteOffset := 8 }, { name := "Time", type := 58, offset := 2, embedded := false, tag := "", pkgPath := "", byteOffset := 16 }]

theorem eqI24 (d : Nat) (a b a' b' : Int) (w : World) : (Op.equalIn (d + 2) 24 (.agg #[.int .u64 a, .int .u64 b]) (.agg #[.int .u64 a', .int .u64 b'])).run P w = .ok (a == a' && b == b') w := by
  rw [run_equalIn_struct w (d + 1) 24 _ _ (by kernel_rfl) (by kernel_rfl), show (P.fieldsOf 24).toList = fl24 by kernel_rfl]
  simp only [fl24, Op.eqFields, ne_eq, String.reduceEq, not_false_eq_true, if_true, Sem.run_bind]
  rw [part_one ty22 (v := .int .u64 a) rfl w, Result.andThen_ok, part_one ty22 (v := .int .u64 a') rfl w, Result.andThen_ok, eqI22, Result.andThen_ok]
  rw [Sem.run_ite]
  cases h : (a == a') with
  | false => simp
  | true =>
    simp only [Bool.not_true, Bool.false_eq_true, if_false, Sem.run_bind]
    rw [part_one ty22 (v := .int .u64 b) rfl w, Result.andThen_ok, part_one ty22 (v := .int .u64 b') rfl w, Result.andThen_ok, eqI22, Result.andThen_ok]
    cases h : (b == b') <;> simp

theorem eqI58 (d : Nat) (a b e a' b' e' : Int) (w : World) : (Op.equalIn (d + 3) 58 (.agg #[.int .u64 a, .int .u64 b, .int .u64 e]) (.agg #[.int .u64 a', .int .u64 b', .int .u64 e'])).run P w = .ok (a == a' && b == b' && e == e') w := by
  rw [run_equalIn_struct w (d + 2) 58 _ _ (by kernel_rfl) (by kernel_rfl), show (P.fieldsOf 58).toList = fl58 by kernel_rfl]
  simp only [fl58, Op.eqFields, ne_eq, String.reduceEq, not_false_eq_true, if_true, Sem.run_bind]
  rw [part_agg ty24, Result.andThen_ok, part_agg ty24, Result.andThen_ok]
  rw [show (Value.agg (#[Value.int .u64 a, .int .u64 b, .int .u64 e].extract 0 (0 + [u0, u0].length))) = .agg #[.int .u64 a, .int .u64 b] from rfl, show (Value.agg (#[Value.int .u64 a', .int .u64 b', .int .u64 e'].extract 0 (0 + [u0, u0].length))) = .agg #[.int .u64 a', .int .u64 b'] from rfl]
  rw [eqI24, Result.andThen_ok, Sem.run_ite]
  cases h : (a == a' && b == b') with
  | false => simp
  | true =>
    simp only [Bool.not_true, Bool.false_eq_true, if_false, Sem.run_bind]
    rw [part_one ty22 (v := .int .u64 e) rfl w, Result.andThen_ok, part_one ty22 (v := .int .u64 e') rfl w, Result.andThen_ok, eqI22, Result.andThen_ok]
    cases h : (e == e') <;> simp

theorem eqI67 (d : Nat) (x y a b e x' y' a' b' e' : Int) (w : World) : (Op.equalIn (d + 4) 67 (.agg #[.int .i64 x, .int .i64 y, .int .u64 a, .int .u64 b, .int .u64 e]) (.agg #[.int .i64 x', .int .i64 y', .int .u64 a', .int .u64 b', .int .u64 e'])).run P w =
    .ok (x == x' && y == y' && (a == a' && b == b' && e == e')) w := by
  rw [run_equalIn_struct w (d + 3) 67 _ _ (by kernel_rfl) (by kernel_rfl), show (P.fieldsOf 67).toList = fl67 by kernel_rfl]
  simp only [fl67, Op.eqFields, ne_eq, String.reduceEq, not_false_eq_true, if_true, Sem.run_bind]
  rw [part_one ty3 (v := .int .i64 x) rfl w, Result.andThen_ok, part_one ty3 (v := .int .i64 x') rfl w, Result.andThen_ok, eqI3, Result.andThen_ok, Sem.run_ite]
  cases h : (x == x') with
  | false => simp
  | true =>
    simp only [Bool.not_true, Bool.false_eq_true, if_false, Sem.run_bind]
    rw [part_one ty3 (v := .int .i64 y) rfl w, Result.andThen_ok, part_one ty3 (v := .int .i64 y') rfl w, Result.andThen_ok, eqI3, Result.andThen_ok, Sem.run_ite]
    cases h : (y == y') with
    | false => simp
    | true =>
      simp only [Bool.not_true, Bool.false_eq_true, if_false, Sem.run_bind]
      rw [part_agg ty58, Result.andThen_ok, part_agg ty58, Result.andThen_ok]
      rw [show (Value.agg (#[Value.int .i64 x, .int .i64 y, .int .u64 a, .int .u64 b, .int .u64 e].extract 2 (2 + [u0, u0, u0].length))) = .agg #[.int .u64 a, .int .u64 b, .int .u64 e] from rfl,
        show (Value.agg (#[Value.int .i64 x', .int .i64 y', .int .u64 a', .int .u64 b', .int .u64 e'].extract 2 (2 + [u0, u0, u0].length))) = .agg #[.int .u64 a', .int .u64 b', .int .u64 e'] from rfl]
      rw [eqI58, Result.andThen_ok]
      cases h : (a == a' && b == b' && e == e') <;> simp

/-- An array's cells, one by one: what the model's loop comes to. -/
theorem eq_arr {t n e : Nat} {z : List Value} (ha : arr t = some (n, e)) (ht : TyOk e false z) (xs ys : Array Value) (f : Nat → Bool) (d : Nat)
    (hx : ∀ i, i < n → ∃ x y, xs[i]? = some x ∧ ys[i]? = some y ∧ ∀ w, (Op.equalIn d e x y).run P w = .ok (f i) w) (w : World) :
    (Op.equalIn (d + 1) t (.agg xs) (.agg ys)).run P w = .ok ((List.range n).all f) w := by
  simp only [Op.equalIn, Sem.run_bind, arr_run ha, Result.andThen_ok, ht.size w]
  rw [Std.Legacy.Range.forIn_eq_forIn_range']
  simp only [Std.Legacy.Range.size, Nat.sub_zero, Nat.add_sub_cancel, Nat.div_one]
  have h1 : z.length = 1 := ht.one rfl
  simp only [h1, Nat.mul_one]
  have key : ∀ (m s : Nat), s + m ≤ n → (do
      let r ← forIn (List.range' s m 1) ((none, ()) : Option Bool × Unit) fun i r => do
        let x ← part e xs i
        let y ← part e ys i
        let b ← Op.equalIn d e x y
        if (!b) = true then pure (ForInStep.done ⟨some false, ()⟩) else do
          pure PUnit.unit
          pure (ForInStep.yield ⟨none, ()⟩)
      match r.fst with
      | some a => pure a
      | none => pure true : Sem Bool).run P w = .ok ((List.range' s m 1).all f) w := by
    intro m
    induction m with
    | zero => intro s _; simp
    | succ m ih =>
      intro s hs
      obtain ⟨x, y, h1, h2, h3⟩ := hx s (by omega)
      simp only [List.range'_succ, List.forIn_cons, bind_assoc, Sem.run_bind, part_one ht h1, part_one ht h2, Result.andThen_ok, h3, List.all_cons]
      cases hf : f s with
      | false => simp
      | true =>
        have := ih (s + 1) (by omega)
        simp only [Sem.run_bind] at this
        simpa using this
  have := key n 0 (by omega)
  rw [List.range_eq_range']
  rw [Sem.run_bind] at this
  refine Eq.trans ?_ this
  congr 1
  · congr 1
    funext a w'
    obtain ⟨x, y⟩ := a
    cases x <;> rfl

theorem all_eq_range {α : Type} [BEq α] [LawfulBEq α] (l l' : List α) (n : Nat) (h : l.length = n) (h' : l'.length = n) : ((List.range n).all fun i => l[i]? == l'[i]?) = (l == l') := by
  rw [Bool.eq_iff_iff, List.all_eq_true, beq_iff_eq]
  constructor
  · intro H
    apply List.ext_getElem?
    intro i
    by_cases hi : i < n
    · simpa using H i (by simpa using hi)
    · rw [List.getElem?_eq_none (by omega), List.getElem?_eq_none (by omega)]
  · rintro rfl i _
    simp

theorem eqI32 (d : Nat) (l l' : List Bool) (h : l.length = 256) (h' : l'.length = 256) (w : World) :
    (Op.equalIn (d + 2) 32 (.agg (l.map Value.bool).toArray) (.agg (l'.map Value.bool).toArray)).run P w = .ok (l == l') w := by
  rw [eq_arr (n := 256) (e := 4) rfl ty4 _ _ (fun i => l[i]? == l'[i]?) (d + 1) (fun i hi => ?_) w, all_eq_range l l' 256 h h']
  have h1 : l[i]? = some (l[i]'(by omega)) := by simp
  have h2 : l'[i]? = some (l'[i]'(by omega)) := by simp
  refine ⟨.bool (l[i]'(by omega)), .bool (l'[i]'(by omega)), by simp [h1], by simp [h2], fun w => ?_⟩
  rw [eqI4, h1, h2]
  rfl

theorem eqI116 (d : Nat) (l l' : List Int) (h : l.length = 7) (h' : l'.length = 7) (w : World) :
    (Op.equalIn (d + 2) 116 (.agg (l.map (Value.int .u64)).toArray) (.agg (l'.map (Value.int .u64)).toArray)).run P w = .ok (l == l') w := by
  rw [eq_arr (n := 7) (e := 22) rfl ty22 _ _ (fun i => l[i]? == l'[i]?) (d + 1) (fun i hi => ?_) w, all_eq_range l l' 7 h h']
  have h1 : l[i]? = some (l[i]'(by omega)) := by simp
  have h2 : l'[i]? = some (l'[i]'(by omega)) := by simp
  refine ⟨.int .u64 (l[i]'(by omega)), .int .u64 (l'[i]'(by omega)), by simp [h1], by simp [h2], fun w => ?_⟩
  rw [eqI22, h1, h2]
  rfl

theorem ege24 : P.eqGuardType P.depth 24 = false := by kernel_rfl
theorem ege58 : P.eqGuardType P.depth 58 = false := by kernel_rfl
theorem ege67 : P.eqGuardType P.depth 67 = false := by kernel_rfl
theorem ege32 : P.eqGuardType P.depth 32 = false := by kernel_rfl
theorem ege116 : P.eqGuardType P.depth 116 = false := by kernel_rfl

/-- Two structs or arrays of one of our types, by '=='. -/
theorem aeq_sound {t : Nat} {c d : Array Value} {r : Bool} (h : aeq t c.toList d.toList = some r) (w : World) :
    (Op.equalIn 10000 t (.agg c) (.agg d)).run P w = .ok r w ∧ P.eqGuardType P.depth t = false := by
  obtain ⟨c⟩ := c
  obtain ⟨d⟩ := d
  unfold aeq at h
  split at h
  · split at h
    · rename_i h1 h2
      simp only at h1 h2
      subst h1; subst h2
      cases h
      exact ⟨eqI24 9998 _ _ _ _ w, ege24⟩
    · cases h
  · split at h
    · rename_i h1 h2
      simp only at h1 h2
      subst h1; subst h2
      cases h
      exact ⟨eqI58 9997 _ _ _ _ _ _ w, ege58⟩
    · cases h
  · split at h
    · rename_i h1 h2
      simp only at h1 h2
      subst h1; subst h2
      cases h
      exact ⟨eqI67 9996 _ _ _ _ _ _ _ _ _ _ w, ege67⟩
    · cases h
  · split at h
    · rename_i l l' h1 h2
      simp only at h1 h2
      rw [unB_eq h1, unB_eq h2]
      split at h
      · rename_i hl
        cases h
        exact ⟨eqI32 9998 l l' hl.1 hl.2 w, ege32⟩
      · cases h
    · cases h
  · split at h
    · rename_i a b e f g i j a' b' e' f' g' i' j' h1 h2
      simp only at h1 h2
      subst h1; subst h2
      cases h
      have hb : ([a, b, e, f, g, i, j] == [a', b', e', f', g', i', j']) = (a == a' && b == b' && e == e' && f == f' && g == g' && i == i' && j == j') := by
        rw [Bool.eq_iff_iff]
        simp only [beq_iff_eq, Bool.and_eq_true, List.cons.injEq, and_true]
        constructor
        · rintro ⟨rfl, rfl, rfl, rfl, rfl, rfl, rfl⟩; simp
        · rintro ⟨⟨⟨⟨⟨⟨rfl, rfl⟩, rfl⟩, rfl⟩, rfl⟩, rfl⟩, rfl⟩; simp
      exact ⟨hb ▸ eqI116 9998 [a, b, e, f, g, i, j] [a', b', e', f', g', i', j'] rfl rfl w, ege116⟩
    · cases h
  · cases h

end Go.Proofs.Ytdfkcijholopoaa.Vm
namespace Go.Proofs.Ytdfkcijholopoaa.Vm
open Go
set_option linter.unusedSimpArgs false

theorem und65 : P.underlying 65 = some (.map 3 4) := by kernel_rfl
theorem run_findA {w : World} {n : Int} {es : List MapEntry} {r : Option (Nat × Value)} (h : Instr.findNow (.int .i64) (.int .i64 n) es 0 = some r) : (Instr.findKey 3 (.int .i64 n) es).run P w = .ok r w := by
  simp only [Instr.findKey, Sem.run_bind, run_underlying und3, Result.andThen_ok, h, Sem.run_pure]
theorem run_keyd {w : World} {n : Int} {e : Bool} (d : Nat) : (Instr.checkKey e (d + 1) 3 (.int .i64 n)).run P w = .ok () w := by
  simp only [Instr.checkKey, Sem.run_bind, run_underlying und3, Result.andThen_ok, Sem.run_pure]
theorem run_key {w : World} {n : Int} {e : Bool} : (Instr.checkKey e 10000 3 (.int .i64 n)).run P w = .ok () w := run_keyd 9999
theorem zero4 (w : World) : (zeroValue 4).run P w = .ok (.bool false) w := by
  have hi : (P.info? 4).map (fun i => (i.zero, i.size)) = some (some (.bool false), 1) := by kernel_rfl
  cases hq : P.info? 4 with
  | none => simp [hq] at hi
  | some i =>
    simp [hq] at hi
    simp [zeroValue, typeInfo, hq, hi]
theorem lkm_run {w : World} {r : Nat} {ob : Obj} {n : Int} {v : Value} (hr : w.heap[r]? = some ob) (h : lkm ob n = some v) : plain v = true ∧ (Instr.lookup 65 (.map (some r)) (.int .i64 n) false).run P w = .ok v w := by
  unfold lkm at h
  split at h
  · rename_i es c
    unfold lkv at h
    split at h
    · rename_i hf
      cases h
      refine ⟨rfl, ?_⟩
      simp only [Instr.lookup, getObj, Sem.run_bind, Sem.run, run_underlying und65, hr, Result.andThen_ok, Result.andThen, Sem.run_pure, run_key, run_findA hf, zero4]
      rfl
    · rename_i j v' hf
      split at h
      · rename_i hp
        cases h
        refine ⟨hp, ?_⟩
        simp only [Instr.lookup, getObj, Sem.run_bind, Sem.run, run_underlying und65, hr, Result.andThen_ok, Result.andThen, Sem.run_pure, run_key, run_findA hf]
        rfl
      · cases h
    · cases h
  · cases h

section ops
variable {M : Nat → Prop} {ρ : Nat → Option (Nat × Nat)} {h : Nat → Option Blk} {w : World} {a : Act} {ev : Operand → Value}

theorem pairs_rel {ps : Array (Nat × Operand)} (hp : ∀ x ∈ ps.toList.map (·.2), Rel ρ (ev x) (a.eval x)) :
    ∀ (i : Nat) (p p' : Nat × Value), (ps.toList.map fun (i, x) => (i, ev x))[i]? = some p → (ps.map fun (i, x) => (i, a.eval x)).toList[i]? = some p' → p.1 = p'.1 ∧ Rel ρ p.2 p'.2 := by
  intro i p p' h1 h2
  simp only [Array.toList_map, List.getElem?_map] at h1 h2
  cases hx : ps.toList[i]? with
  | none => rw [hx] at h1; cases h1
  | some x =>
    rw [hx] at h1 h2
    cases h1; cases h2
    exact ⟨rfl, hp x.2 (List.mem_map.2 ⟨x, List.mem_of_getElem? hx, rfl⟩)⟩

theorem fill_sound {ps : Array (Nat × Operand)} (hp : ∀ x ∈ ps.toList.map (·.2), Rel ρ (ev x) (a.eval x)) {place : Nat → Option (Nat × Nat)} {z : List Value} {z' : Array Value} (hz : RelL ρ z z'.toList) {c : List Value}
    (hc : fillL place z (ps.toList.map fun (i, x) => (i, ev x)) = some c) : ∃ c', Instr.fill place z' (ps.map fun (i, x) => (i, a.eval x)).toList = some c' ∧ RelL ρ c c'.toList := by
  obtain ⟨d', h1, h2⟩ := fillL_rel place _ (ps.map fun (i, x) => (i, a.eval x)).toList z z'.toList c (by simp) (pairs_rel hp) hz hc
  exact ⟨d'.toArray, fill_eq place _ _ d' h1, by simpa using h2⟩

theorem ibin_sound {op : BinOp} {k k' : IntKind} {x y : Int} {v : Value} (hv : ibin op k k' x y = some v) (t : TypeId) : (binOp op t (.int k x) (.int k' y)).run P w = .ok v w ∧ plain v = true := by
  cases op <;> simp only [ibin] at hv <;> first | (cases hv; done) | skip
  case shl =>
    split at hv
    · cases hv
    · rename_i hb; cases hv; simp only [binOp, Op.shift, if_neg hb]; exact ⟨rfl, rfl⟩
  case shr =>
    split at hv
    · cases hv
    · rename_i hb; cases hv; simp only [binOp, Op.shift, if_neg hb]; exact ⟨rfl, rfl⟩
  all_goals
    split at hv
    · rename_i hk
      subst hk
      first
      | (cases hv; simp only [binOp, ne_eq, not_true_eq_false, if_false]; exact ⟨rfl, rfl⟩)
      | (split at hv
         · cases hv
         · rename_i hb; cases hv; simp only [binOp, ne_eq, not_true_eq_false, if_false, Op.intDiv, if_neg hb]; exact ⟨rfl, rfl⟩)
    · cases hv

theorem eqGuard_other {op : BinOp} {t : TypeId} {x y : Operand} {u v : Value} (hu : ∀ c, u ≠ .agg c) (hi : u ≠ .nilIface) : (eqGuard op t x y u v).run P w = .ok () w := by
  unfold eqGuard
  cases op <;> simp only [Sem.run_bind, Sem.run_pure, Bool.not_true, Bool.not_false, Bool.false_eq_true, if_true, if_false, Result.andThen_ok] <;> first | rfl | skip
  all_goals (cases u <;> first | rfl | exact absurd rfl (hu _) | exact absurd rfl hi)

theorem vbin_sound {op : BinOp} {t : TypeId} {x y : Operand} {u u' s s' v : Value} (hu : Rel ρ u u') (hs : Rel ρ s s') (hv : vbin op t u s = some v) :
    (do eqGuard op t x y u' s'; binOp op t u' s' : Sem Value).run P w = .ok v w ∧ plain v = true := by
  unfold vbin at hv
  split at hv
  · rw [hu.int_inv, hs.int_inv, Sem.run_bind, eqGuard_other (by intro c h; cases h) (by intro h; cases h)]
    exact ibin_sound hv t
  · rename_i p q
    rw [hu.bool_inv, hs.bool_inv, Sem.run_bind, eqGuard_other (by intro c h; cases h) (by intro h; cases h)]
    split at hv
    · rename_i ht
      subst ht
      split at hv
      · cases hv
        refine ⟨?_, rfl⟩
        simp only [Result.andThen_ok, binOp, Sem.run_bind, Op.equal, Op.maxDepth, eqI4, Sem.run_pure]
      · cases hv
        refine ⟨?_, rfl⟩
        simp only [Result.andThen_ok, binOp, Sem.run_bind, Op.equal, Op.maxDepth, eqI4, Sem.run_pure]
      · cases hv
    · cases hv
  · rename_i c d
    cases hr : aeq t c.toList d.toList with
    | none => rw [hr] at hv; cases hv
    | some r =>
      rw [hr] at hv
      have pc : plain (.agg c) = true ∧ plain (.agg d) = true := by
        have key : ∀ (c d : List Value), aeq t c d = some r → plainL c = true ∧ plainL d = true := by
          intro c d h
          unfold aeq at h
          split at h
          · split at h
            · exact ⟨rfl, rfl⟩
            · cases h
          · split at h
            · exact ⟨rfl, rfl⟩
            · cases h
          · split at h
            · exact ⟨rfl, rfl⟩
            · cases h
          · split at h
            · rename_i l l' h1 h2
              rw [unB_eq h1, unB_eq h2]
              exact ⟨plainL_bools _, plainL_bools _⟩
            · cases h
          · split at h
            · exact ⟨rfl, rfl⟩
            · cases h
          · cases h
        obtain ⟨c⟩ := c
        obtain ⟨d⟩ := d
        exact key c d hr
      rw [hu.eq_of_plain pc.1, hs.eq_of_plain pc.2]
      obtain ⟨h1, h2⟩ := aeq_sound hr w
      rw [Sem.run_bind, run_eqGuard_agg w op t x y c d h2, Result.andThen_ok]
      simp only [Option.bind_some] at hv
      split at hv
      · cases hv
        exact ⟨by rw [run_eql_struct, h1]; rfl, rfl⟩
      · cases hv
        exact ⟨by rw [run_neq_struct, h1]; rfl, rfl⟩
      · cases hv
  · rename_i b l c l' c'
    split at hv
    · rename_i ht
      subst ht
      rw [hs.eq_of_plain rfl]
      have hu' : ∃ b' , u' = .slice b' l c ∧ b'.isNone = b.isNone := by
        cases b with
        | none => exact ⟨none, hu.eq_of_plain rfl, rfl⟩
        | some b =>
          cases hu with
          | plain h => simp [Vm.plain] at h
          | slice h => exact ⟨_, rfl, rfl⟩
          | wild => exact ⟨_, rfl, rfl⟩
      obtain ⟨b', rfl, hb⟩ := hu'
      rw [Sem.run_bind, eqGuard_other (by intro c h; cases h) (by intro h; cases h), Result.andThen_ok]
      have hq : (Op.equal 53 (.slice b' l c) (.slice none l' c')).run P w = .ok b.isNone w := by
        have key : ∀ d, (Op.equalIn (d + 1) 53 (.slice b' l c) (.slice none l' c')).run P w = .ok b'.isNone w := by
          intro d
          simp only [Op.equalIn, Sem.run_bind, run_underlying (show P.underlying 53 = some (.slice 67) by kernel_rfl), Result.andThen_ok]
          cases b' <;> rfl
        rw [← hb]
        exact key 9999
      split at hv
      · cases hv
        refine ⟨?_, rfl⟩
        simp only [binOp, Sem.run_bind, hq, Result.andThen_ok, Sem.run_pure]
      · cases hv
        refine ⟨?_, rfl⟩
        simp only [binOp, Sem.run_bind, hq, Result.andThen_ok, Sem.run_pure]
      · cases hv
    · cases hv
  · cases hv

theorem newVar_run (t : TypeId) (v : Value) (w : World) : (do pure (.pointer (some (← newVar t v))) : Sem Value).run P w = .ok (.pointer (some ⟨w.heap.size, 0, none⟩)) (w.alloc (.cells v.cells t)) := rfl

def OptRel (ρ : Nat → Option (Nat × Nat)) : Option Value → Option Value → Prop
  | none, none => True
  | some v, some v' => Rel ρ v v'
  | _, _ => False
theorem OptRel.map {x : Option Operand} (hx : ∀ y, x = some y → Rel ρ (ev y) (a.eval y)) : OptRel ρ (x.map ev) (x.map a.eval) := by
  cases x with
  | none => trivial
  | some y => exact hx y rfl

def sbound (v : Value) (y : Nat) : Option Nat := match v with | .int _ i => if 0 ≤ i ∧ i ≤ y then some i.toNat else none | _ => none
theorem sbound_sound {v v' : Value} {y : Nat} {c : BoundsCode} {r : Nat} (hr : Rel ρ v v') (hv : sbound v y = some r) : (Instr.sliceBound v' y c).run P w = .ok r w := by
  unfold sbound at hv
  cases v <;> try (cases hv; done)
  rename_i k i
  rw [hr.int_inv]
  simp only at hv
  split at hv
  · rename_i hc
    cases hv
    simp only [Instr.sliceBound, Sem.run_bind, asIntOf, Sem.run_pure, Result.andThen_ok, if_pos hc]
  · cases hv

theorem sbound_le {v : Value} {y r : Nat} (h : sbound v y = some r) : r ≤ y := by
  unfold sbound at h
  split at h
  · split at h
    · cases h; omega
    · cases h
  · cases h
theorem sbounds_zero {lo hi mx : Option Value} {l m n : Nat} (hs : sbounds 0 0 lo hi mx = some (l, m, n)) : l = 0 ∧ m = 0 ∧ n = 0 := by
  have hs' : ((match mx with | some v => sbound v 0 | none => some 0).bind fun m =>
    (match hi, mx with | some v, some _ => sbound v m | some v, none => sbound v 0 | none, none => some 0 | none, some _ => none).bind fun h =>
    (match lo with | some v => sbound v h | none => some 0).bind fun l => some (l, h, m)) = some (l, m, n) := hs
  clear hs
  simp only [Option.bind_eq_some_iff] at hs'
  obtain ⟨m1, h1, h2, h3, l1, h4, h5⟩ := hs'
  cases h5
  have e1 : n ≤ 0 := by
    cases mx with
    | none => cases h1; exact Nat.le_refl _
    | some v => exact sbound_le h1
  have e2 : m ≤ 0 := by
    cases hi with
    | none =>
      cases mx with
      | none => cases h3; exact Nat.le_refl _
      | some v => cases h3
    | some u =>
      cases mx with
      | none => exact sbound_le h3
      | some v => exact Nat.le_trans (sbound_le h3) e1
  have e3 : l ≤ m := by
    cases lo with
    | none => cases h4; exact Nat.zero_le _
    | some v => exact sbound_le h4
  omega

theorem sbounds_sound {len cap : Nat} {lo hi mx lo' hi' mx' : Option Value} (hlo : OptRel ρ lo lo') (hhi : OptRel ρ hi hi') (hmx : OptRel ρ mx mx')
    {l m n : Nat} (hs : sbounds len cap lo hi mx = some (l, m, n)) : (Instr.sliceBounds true len cap lo' hi' mx').run P w = .ok (l, m, n) w := by
  have hs' : ((match mx with | some v => sbound v cap | none => some cap).bind fun m =>
    (match hi, mx with | some v, some _ => sbound v m | some v, none => sbound v cap | none, none => some len | none, some _ => none).bind fun h =>
    (match lo with | some v => sbound v h | none => some 0).bind fun l => some (l, h, m)) = some (l, m, n) := hs
  clear hs
  simp only [Option.bind_eq_some_iff] at hs'
  obtain ⟨m1, h1, h2, h3, l1, h4, h5⟩ := hs'
  cases h5
  unfold Instr.sliceBounds
  cases mx with
  | none =>
    cases mx' with
    | some _ => exact hmx.elim
    | none =>
      cases h1
      simp only [Sem.run_bind, Sem.run_pure, Result.andThen_ok]
      cases hi with
      | none =>
        cases hi' with
        | some _ => exact hhi.elim
        | none =>
          cases h3
          simp only [Sem.run_bind, Sem.run_pure, Result.andThen_ok]
          cases lo with
          | none =>
            cases lo' with
            | some _ => exact hlo.elim
            | none => cases h4; rfl
          | some v =>
            cases lo' with
            | none => exact hlo.elim
            | some v' =>
              have h4' : sbound v len = some l := h4
              simp only [Sem.run_bind, sbound_sound hlo h4', Result.andThen_ok, Sem.run_pure]
      | some u =>
        cases hi' with
        | none => exact hhi.elim
        | some u' =>
          have h3' : sbound u cap = some m := h3
          simp only [Sem.run_bind, sbound_sound hhi h3', Result.andThen_ok]
          cases lo with
          | none =>
            cases lo' with
            | some _ => exact hlo.elim
            | none => cases h4; rfl
          | some v =>
            cases lo' with
            | none => exact hlo.elim
            | some v' =>
              have h4' : sbound v m = some l := h4
              simp only [Sem.run_bind, sbound_sound hlo h4', Result.andThen_ok, Sem.run_pure]
  | some q =>
    cases mx' with
    | none => exact hmx.elim
    | some q' =>
      have h1' : sbound q cap = some n := h1
      simp only [Sem.run_bind, sbound_sound hmx h1', Result.andThen_ok]
      cases hi with
      | none => cases h3
      | some u =>
        cases hi' with
        | none => exact hhi.elim
        | some u' =>
          have h3' : sbound u n = some m := h3
          simp only [Sem.run_bind, sbound_sound hhi h3', Result.andThen_ok]
          cases lo with
          | none =>
            cases lo' with
            | some _ => exact hlo.elim
            | none => cases h4; rfl
          | some v =>
            cases lo' with
            | none => exact hlo.elim
            | some v' =>
              have h4' : sbound v m = some l := h4
              simp only [Sem.run_bind, sbound_sound hlo h4', Result.andThen_ok, Sem.run_pure]

end ops

end Go.Proofs.Ytdfkcijholopoaa.Vm
namespace Go.Proofs.Ytdfkcijholopoaa.Vm
open Go
set_option linter.unusedSimpArgs false

section ops
variable {M : Nat → Prop} {ρ : Nat → Option (Nat × Nat)} {h : Nat → Option Blk} {w : World} {a : Act} {ev : Operand → Value}

theorem relA_map {xs : Array Operand} (hx : ∀ x ∈ xs, Rel ρ (ev x) (a.eval x)) : RelA ρ (xs.map ev) (xs.map a.eval) := by
  refine ⟨by simp, fun i v v' h1 h2 => ?_⟩
  simp only [Array.getElem?_map] at h1 h2
  cases hq : xs[i]? with
  | none => rw [hq] at h1; cases h1
  | some x =>
    rw [hq] at h1 h2
    cases h1; cases h2
    exact hx x (Array.mem_of_getElem? hq)

theorem vindex_sound {len sz k m : Nat} {n : Int} {v : Value} (hv : vindex len sz k m n = some v) : 0 ≤ n ∧ n < len ∧ v = .pointer (some ⟨m, k + n.toNat * sz, none⟩) := by
  unfold vindex at hv
  split at hv
  · rename_i hc; cases hv; exact ⟨hc.1, hc.2, rfl⟩
  · cases hv

set_option maxRecDepth 4000 in
theorem vex_sound {o : Oper} {ef : Ef} (hev : ∀ x ∈ o.op.operands, Rel ρ (ev x) (a.eval x)) (hH : RH M ρ h w) (hv : vex ev h o.op = some ef) : EfOk M ρ h o a w ef := by
  obtain ⟨dst, op, type, pos, after, guard⟩ := o
  simp only at hev hv
  unfold vex at hv
  split at hv
  -- move
  · cases hv
    exact ⟨_, rfl, hev _ (by simp [Op.operands])⟩
  -- assign
  · cases hv
    exact ⟨_, rfl, hev _ (by simp [Op.operands])⟩
  -- pick
  · rename_i c x y
    split at hv
    · rename_i t hc
      cases hv
      have h1 := hev c (by simp [Op.operands])
      rw [hc] at h1
      have h2 := h1.bool_inv
      refine ⟨if t = true then a.eval x else a.eval y, ?_, ?_⟩
      · simp only [execOp, Sem.run_bind, h2, asBool, Sem.run_pure, Result.andThen_ok]
      · cases t
        · exact hev y (by simp [Op.operands])
        · exact hev x (by simp [Op.operands])
    · cases hv
  -- alloc
  · rename_i t
    split at hv
    · rename_i ag z ht
      cases hv
      have hok := ty_ok ht
      obtain ⟨zv, h1, h2⟩ := hok.zero w
      refine ⟨rfl, .pointer (some ⟨w.heap.size, 0, none⟩), .cells z.toArray t, ?_, fun ρ' m he hm => ⟨?_, z.toArray, rfl, rfl, ?_⟩⟩
      · simp only [execOp, Instr.alloc, Sem.run_bind, h1, Result.andThen_ok, newVar, newRow, h2, run_newObj, Sem.run_pure]
        rfl
      · exact .ptr hm
      · simpa using RelL.refl_of_plain hok.pl
    · cases hv
  -- box
  · rename_i t x
    cases hv
    have h1 := hev x (by simp [Op.operands])
    refine ⟨rfl, .pointer (some ⟨w.heap.size, 0, none⟩), .cells (a.eval x).cells t, rfl, fun ρ' m he hm => ⟨.ptr hm, _, rfl, rfl, ?_⟩⟩
    exact (h1.cells.ext he).toL
  -- build
  · rename_i t parts
    split at hv
    · rename_i ag z l ht hf
      have hok := ty_ok ht
      obtain ⟨fs, hu, hl, hfs⟩ := flds_ok hf
      obtain ⟨zv, h1, h2⟩ := hok.zero w
      cases hc : fillL (fun x => l[x]?) z (parts.toList.map fun (i, x) => (i, ev x)) with
      | none => rw [hc] at hv; cases hv
      | some c =>
        rw [hc] at hv
        cases hv
        obtain ⟨c', h3, h4⟩ := fill_sound (a := a) (ρ := ρ) (ps := parts) (fun x hx => hev x (by simpa [Op.operands] using hx)) (z' := z.toArray) (by simpa using RelL.refl_of_plain hok.pl) hc
        refine ⟨.agg c', ?_, Rel.agg' ?_⟩
        · have hpl : (fs.mapM (fun f => do pure (f.offset, ← sizeOf f.type)) : Sem (Array (Nat × Nat))).run P w = .ok l.toArray w := by
            rw [← hl]
            rw [← Array.toArray_toList (xs := fs)]
            rw [List.mapM_toArray]
            have : ∀ (fl : List Field), (∀ f ∈ fl, f ∈ fs.toList) → (fl.mapM (fun f => do pure (f.offset, ← sizeOf f.type)) : Sem (List (Nat × Nat))).run P w = .ok (fl.map fun f => (f.offset, P.cellsOf f.type)) w := by
              intro fl
              induction fl with
              | nil => intro _; rfl
              | cons f fl ih =>
                intro hm
                have e1 := (hfs f (hm f (by simp)) w).1
                have e2 := ih (fun g hg => hm g (by simp [hg]))
                simp only [List.mapM_cons, Sem.run_bind, e1, Result.andThen_ok, Sem.run_pure, e2, List.map_cons]
            have := this fs.toList (fun f hf => hf)
            simp only [Sem.run_map, this, Result.andThen_ok]
          simp only [execOp, Instr.build, Sem.run_bind, h1, Result.andThen_ok, run_underlying hu, hpl, h2]
          have e : (fun x : Nat => l.toArray[x]?) = fun x : Nat => l[x]? := by funext x; simp
          rw [e]
          replace h3 : Instr.fill (fun x : Nat => l[x]?) z.toArray (parts.map fun x => (x.fst, a.eval x.snd)).toList = some c' := h3
          rw [h3]
          rfl
        · exact ⟨by simpa using h4.1, fun i v v' a b => h4.2 i v v' (by simpa using a) (by simpa using b)⟩
    · rename_i ag z n e ht hf ha
      split at hv
      · rename_i age ze hte
        have hok := ty_ok ht
        have hoke := ty_ok hte
        obtain ⟨zv, h1, h2⟩ := hok.zero w
        cases hc : fillL (fun i => some (i * ze.length, ze.length)) z (parts.toList.map fun (i, x) => (i, ev x)) with
        | none => rw [hc] at hv; cases hv
        | some c =>
          rw [hc] at hv
          cases hv
          obtain ⟨c', h3, h4⟩ := fill_sound (a := a) (ρ := ρ) (ps := parts) (fun x hx => hev x (by simpa [Op.operands] using hx)) (z' := z.toArray) (by simpa using RelL.refl_of_plain hok.pl) hc
          refine ⟨.agg c', ?_, Rel.agg' ?_⟩
          · simp only [execOp, Instr.build, Sem.run_bind, h1, Result.andThen_ok, arr_run ha, hoke.size, h2]
            rw [h3]
            rfl
          · exact ⟨by simpa using h4.1, fun i v v' a b => h4.2 i v v' (by simpa using a) (by simpa using b)⟩
      · cases hv
    · cases hv
  -- buildSlice
  · rename_i t n parts
    split at hv
    · rename_i e hs
      split at hv
      · rename_i ag z hte
        split at hv
        · rename_i hn
          have hok := ty_ok hte
          obtain ⟨zv, h1, h2⟩ := hok.zero w
          cases hc : fillL (fun i => some (i * z.length, z.length)) (zrow n z) (parts.toList.map fun (i, x) => (i, ev x)) with
          | none => rw [hc] at hv; cases hv
          | some c =>
            rw [hc] at hv
            cases hv
            have hzr := zrow_rel (ρ := ρ) n z hok.pl hok.pos
            obtain ⟨c', h3, h4⟩ := fill_sound (a := a) (ρ := ρ) (ps := parts) (fun x hx => hev x (by simpa [Op.operands] using hx)) hzr hc
            refine ⟨rfl, .slice (some ⟨w.heap.size, 0, none⟩) n n, .cells c' e, ?_, fun ρ' m he hm => ⟨.slice hm, c', rfl, rfl, h4.ext he⟩⟩
            replace h3 : Instr.fill (fun i => some (i * z.length, z.length)) ((Array.range (n * z.length)).map (z.toArray[· % z.toArray.size]!)) (parts.map fun x => (x.fst, a.eval x.snd)).toList = some c' := h3
            simp only [execOp, Instr.buildSlice, Sem.run_bind, sl_run hs, Result.andThen_ok, hok.size]
            rw [if_neg (by omega)]
            by_cases h0 : n * z.length = 0
            · rw [if_pos h0]
              have e0 : ∀ f : Nat → Value, (Array.range (n * z.length)).map f = #[] := fun f => by rw [h0]; simp
              rw [e0] at h3
              simp only [Sem.run_bind, Sem.run_pure, Result.andThen_ok, e0, h3]
              rfl
            · rw [if_neg h0]
              simp only [Sem.run_bind, h1, Sem.run_pure, Result.andThen_ok, h2, h3]
              rfl
        · cases hv
      · cases hv
    · cases hv
  -- load
  · rename_i t x
    split at hv
    · rename_i m k ag z hx ht
      split at hv
      · rename_i c e own hm
        have hok := ty_ok ht
        have h1 := hev x (by simp [Op.operands])
        rw [hx] at h1
        obtain ⟨r, ofs, hr, h2⟩ := h1.ptr_inv
        obtain ⟨r', ofs', hr', hblk, _⟩ := hH.blk m _ hm
        rw [hr] at hr'
        cases hr'
        cases hp : partAt ag z.length c k with
        | none => rw [hp] at hv; cases hv
        | some v =>
          rw [hp] at hv
          cases hv
          obtain ⟨v', h3, h4⟩ := partAt_sound (k := k) hok hblk hp
          refine ⟨v', ?_, h4⟩
          simp only [execOp, Instr.loadAt, h2, Instr.sureAddr, Sem.run_bind, Sem.run_pure, Result.andThen_ok, h3]
      · cases hv
    · cases hv
  -- lookup
  · rename_i x i
    split at hv
    · rename_i m n hx hi
      split at hv
      · rename_i ob hm
        have h1 := hev x (by simp [Op.operands])
        have h2 := hev i (by simp [Op.operands])
        rw [hx] at h1
        rw [hi] at h2
        obtain ⟨r, hr, h3⟩ := h1.map_inv
        obtain ⟨r', ofs', hr', ⟨hblk, _⟩, _⟩ := hH.blk m _ hm
        rw [hr] at hr'
        cases hr'
        cases hp : lkm ob n with
        | none => rw [hp] at hv; cases hv
        | some v =>
          rw [hp] at hv
          cases hv
          obtain ⟨h4, h5⟩ := lkm_run hblk hp
          refine ⟨v, ?_, .plain h4⟩
          simp only [execOp, h3, h2.int_inv, Sem.run_bind, Sem.run_pure, Result.andThen_ok, h5]
      · cases hv
    · cases hv
  -- store
  · rename_i t x y
    split at hv
    · rename_i m k ag z hx ht
      split at hv
      · rename_i c e hm
        have hok := ty_ok ht
        have h1 := hev x (by simp [Op.operands])
        have hy := hev y (by simp [Op.operands])
        rw [hx] at h1
        obtain ⟨r, ofs, hr, h2⟩ := h1.ptr_inv
        obtain ⟨r', ofs', hr', hblk, hM⟩ := hH.blk m _ hm
        rw [hr] at hr'
        cases hr'
        obtain ⟨d, hd, rfl, hcd⟩ := hblk
        cases hp : setAt z.length c k (ev y) with
        | none => rw [hp] at hv; cases hv
        | some c' =>
          rw [hp] at hv
          cases hv
          obtain ⟨d', h3, h4⟩ := setAt_sound hok hd hcd hy hp
          have hlt : r < w.heap.size := (Array.getElem?_eq_some_iff.1 hd).1
          refine ⟨rfl, ⟨_, hm, rfl⟩, r, d', hr, hM rfl, hlt, ?_, d', setRow_heap w r d d' e (0, 0) hd, rfl, h4⟩
          rw [Nat.zero_add] at h2
          simp only [execOp, Instr.storeAt, h2, Instr.sureAddr, Sem.run_bind, Sem.run_pure, Result.andThen_ok, h3]
      · cases hv
    · cases hv
  -- nilCheck
  · rename_i x
    have h1 := hev x (by simp [Op.operands])
    split at hv
    · rename_i b hx
      cases hv
      rw [hx] at h1
      have h2 : ∃ b', a.eval x = .pointer (some b') := by
        generalize a.eval x = u at h1
        cases h1 with
        | plain h => exact ⟨b, rfl⟩
        | ptr h => exact ⟨_, rfl⟩
      obtain ⟨b', h2⟩ := h2
      rw [h2] at h1
      exact ⟨.pointer (some b'), by simp only [execOp, h2, Sem.run_pure], h1⟩
    · rename_i f b c hx
      cases hv
      rw [hx] at h1
      obtain ⟨b', c', h2, h3, h4⟩ := h1.func_inv
      rw [h2] at h1
      exact ⟨.func (.func f) b' c', by simp only [execOp, h2, Sem.run_pure], h1⟩
    · cases hv
  -- binOp
  · rename_i op t x y _
    cases hb : vbin op t (ev x) (ev y) with
    | none => rw [hb] at hv; cases hv
    | some v =>
      rw [hb] at hv
      cases hv
      obtain ⟨h1, h2⟩ := vbin_sound (x := x) (y := y) (w := w) (hev x (by simp [Op.operands])) (hev y (by simp [Op.operands])) hb
      refine ⟨v, ?_, .plain h2⟩
      simp only [execOp]
      rw [Sem.run_bind, h1]
      rfl
  -- not
  · rename_i x
    split at hv
    · rename_i b hx
      cases hv
      have h1 := hev x (by simp [Op.operands])
      rw [hx] at h1
      exact ⟨.bool !b, by simp only [execOp, h1.bool_inv, Op.unary, Sem.run_bind, Sem.run_pure, Result.andThen_ok], .plain rfl⟩
    · cases hv
  -- neg
  · rename_i x
    split at hv
    · rename_i k n hx
      cases hv
      have h1 := hev x (by simp [Op.operands])
      rw [hx] at h1
      exact ⟨.int k (k.wrap (0 - n)), by simp only [execOp, h1.int_inv, Op.unary, Op.intArith, Sem.run_bind, Sem.run_pure, Result.andThen_ok], .plain rfl⟩
    · cases hv
  -- convert
  · rename_i src t x
    split at hv
    · rename_i k0 n k1 k hx hk0 hk
      cases hv
      have h1 := hev x (by simp [Op.operands])
      rw [hx] at h1
      refine ⟨.int k (k.wrap n), ?_, .plain rfl⟩
      simp only [execOp, h1.int_inv, convert, Sem.run_bind, run_underlying (ikind_ok hk0), run_underlying (ikind_ok hk), Result.andThen_ok, Conv.intToInt, Sem.run_pure]
    · cases hv
  -- makeFunc
  · rename_i fn first captured
    cases hv
    refine ⟨.func fn (first.map a.eval) (captured.map a.eval), by simp only [execOp, Instr.makeFunc, Sem.run_bind, Sem.run_pure, Result.andThen_ok], ?_⟩
    have h1 := relA_map (ρ := ρ) (ev := ev) (a := a) (xs := first) (fun x hx => hev x (by simp [Op.operands, hx]))
    have h2 := relA_map (ρ := ρ) (ev := ev) (a := a) (xs := captured) (fun x hx => hev x (by simp [Op.operands, hx]))
    have map_eq : ∀ xs : Array Operand, (xs.toList.map ev).toArray = xs.map ev := fun xs => by rw [← Array.toList_map, Array.toArray_toList]
    rw [map_eq, map_eq]
    exact .func h1.1 h1.2 h2.1 h2.2
  -- fieldAddr
  · rename_i t x f
    split at hv
    · rename_i m k l hx hf
      split at hv
      · rename_i off sz hl
        cases hv
        have h1 := hev x (by simp [Op.operands])
        rw [hx] at h1
        obtain ⟨r, ofs, hr, h2⟩ := h1.ptr_inv
        obtain ⟨fs, hu, hfl, hfs⟩ := flds_ok hf
        have hff : ∃ fd, fs[f]? = some fd ∧ fd.offset = off ∧ fd ∈ fs.toList := by
          rw [← hfl, List.getElem?_map] at hl
          cases hq : fs.toList[f]? with
          | none => rw [hq] at hl; cases hl
          | some fd =>
            rw [hq] at hl
            cases hl
            exact ⟨fd, by simpa using hq, rfl, List.mem_of_getElem? hq⟩
        obtain ⟨fd, h3, h4, h5⟩ := hff
        obtain ⟨h6, h7⟩ := hfs fd h5 w
        refine ⟨.pointer (some ⟨r, ofs + (k + off), none⟩), ?_, .ptr hr⟩
        simp only [execOp, Instr.fieldAt, Sem.run_bind, run_underlying hu, Result.andThen_ok, h3, h2, Instr.sureAddr, Sem.run_pure, fieldPlace, h6, Sem.run_ite]
        rw [if_neg (by omega), addr_add, h4, Nat.add_assoc]
        rfl
      · cases hv
    · cases hv
  -- indexAddr
  · rename_i t x i
    split at hv
    · rename_i m k k0 n hx hi
      split at hv
      · rename_i len e ha
        split at hv
        · rename_i ag z hte
          cases hp : vindex len z.length k m n with
          | none => rw [hp] at hv; cases hv
          | some v =>
            rw [hp] at hv
            cases hv
            obtain ⟨h3, h4, rfl⟩ := vindex_sound hp
            have h1 := hev x (by simp [Op.operands])
            have hi1 := hev i (by simp [Op.operands])
            rw [hx] at h1
            rw [hi] at hi1
            obtain ⟨r, ofs, hr, h2⟩ := h1.ptr_inv
            refine ⟨.pointer (some ⟨r, ofs + (k + n.toNat * z.length), none⟩), ?_, .ptr hr⟩
            simp only [execOp, Instr.indexAt, hi1.int_inv, asIntOf, Sem.run_bind, Sem.run_pure, Result.andThen_ok, arr_run ha, h2, Instr.sureAddr]
            rw [if_pos ⟨h3, h4⟩]
            simp only [Sem.run_bind, (ty_ok hte).size w, Result.andThen_ok, Sem.run_pure, addr_add, Nat.add_assoc]
        · cases hv
      · cases hv
    · rename_i m k len cap k0 n hx hi
      split at hv
      · rename_i e hs
        split at hv
        · rename_i ag z hte
          cases hp : vindex len z.length k m n with
          | none => rw [hp] at hv; cases hv
          | some v =>
            rw [hp] at hv
            cases hv
            obtain ⟨h3, h4, rfl⟩ := vindex_sound hp
            have h1 := hev x (by simp [Op.operands])
            have hi1 := hev i (by simp [Op.operands])
            rw [hx] at h1
            rw [hi] at hi1
            obtain ⟨r, ofs, hr, h2⟩ := h1.slice_inv
            refine ⟨.pointer (some ⟨r, ofs + (k + n.toNat * z.length), none⟩), ?_, .ptr hr⟩
            simp only [execOp, Instr.indexAt, hi1.int_inv, asIntOf, Sem.run_bind, Sem.run_pure, Result.andThen_ok, sl_run hs, h2]
            rw [if_pos ⟨h3, h4⟩]
            simp only [Sem.run_bind, (ty_ok hte).size w, Result.andThen_ok, Sem.run_pure, addr_add, Nat.add_assoc]
        · cases hv
      · cases hv
    · cases hv
  -- index
  · rename_i t x i
    split at hv
    · rename_i cs k0 n len e hx hi ha
      split at hv
      · rename_i z hte
        split at hv
        · rename_i hn
          cases hp : cs.toList[n.toNat]? with
          | none => rw [hp] at hv; cases hv
          | some v =>
            rw [hp] at hv
            cases hv
            have h1 := hev x (by simp [Op.operands])
            have hi1 := hev i (by simp [Op.operands])
            rw [hx] at h1
            rw [hi] at hi1
            obtain ⟨cs', h2, h3⟩ := h1.agg_inv
            obtain ⟨v', h4, h5⟩ := h3.get (i := n.toNat) (v := v) (by simpa using hp)
            have hok := ty_ok hte
            refine ⟨v', ?_, h5⟩
            simp only [execOp, Instr.index, hi1.int_inv, asIntOf, Sem.run_bind, Sem.run_pure, Result.andThen_ok, arr_run ha, h2]
            rw [if_pos hn]
            simp only [Sem.run_bind, hok.size w, Result.andThen_ok]
            rw [show n.toNat * z.length = n.toNat by rw [hok.one rfl, Nat.mul_one], part_one hok h4]
            rfl
        · cases hv
      · cases hv
    · cases hv
  -- slice
  · rename_i t x lo hi mx
    split at hv
    · rename_i b len cap e hx hs
      split at hv
      · rename_i ag z hte
        cases hp : sbounds len cap (lo.map ev) (hi.map ev) (mx.map ev) with
        | none => rw [hp] at hv; cases hv
        | some q =>
          obtain ⟨l, hh, m⟩ := q
          rw [hp] at hv
          cases hv
          have h1 := hev x (by simp [Op.operands])
          rw [hx] at h1
          have hb := sbounds_sound (w := w) (OptRel.map (ρ := ρ) (ev := ev) (a := a) (x := lo) fun y hy => hev y (by simp [Op.operands, hy])) (OptRel.map (ρ := ρ) (ev := ev) (a := a) (x := hi) fun y hy => hev y (by simp [Op.operands, hy]))
            (OptRel.map (ρ := ρ) (ev := ev) (a := a) (x := mx) fun y hy => hev y (by simp [Op.operands, hy])) hp
          have hok := ty_ok hte
          have main : ∀ b', a.eval x = .slice b' len cap → Rel ρ (.slice (if m = l then b else b.map fun b => ⟨b.block, b.off + l * z.length, none⟩) (hh - l) (m - l)) (.slice (if m = l then b' else b'.map (·.add (l * z.length))) (hh - l) (m - l)) →
              EfOk M ρ h { dst := dst, op := .slice t x lo hi mx, type := type, pos := pos, after := after, guard := guard } a w (.val (.slice (if m = l then b else b.map fun b => ⟨b.block, b.off + l * z.length, none⟩) (hh - l) (m - l))) := by
            intro b' hb' hr
            refine ⟨_, ?_, hr⟩
            simp only [execOp, Instr.sliceAt, hb', Sem.run_bind, sl_run hs, Result.andThen_ok, Instr.slice, hb, hok.size w, Sem.run_pure]
          cases b with
          | none =>
            refine main none (h1.eq_of_plain rfl) ?_
            simp only [Option.map_none, ite_self]
            exact .plain rfl
          | some b =>
            generalize hu : a.eval x = u at h1
            cases h1 with
            | plain h => simp [Vm.plain] at h
            | slice h =>
              refine main _ hu ?_
              split
              · exact .slice h
              · simp only [Option.map_some, addr_add, Nat.add_assoc]
                exact .slice h
            | wild =>
              obtain ⟨rfl, rfl, rfl⟩ := sbounds_zero hp
              exact main _ hu .wild
      · cases hv
    · cases hv
  -- extract
  · rename_i x i
    split at hv
    · rename_i vs hx
      cases hp : vs.toList[i]? with
      | none => rw [hp] at hv; cases hv
      | some v =>
        rw [hp] at hv
        cases hv
        have h1 := hev x (by simp [Op.operands])
        rw [hx] at h1
        obtain ⟨vs', h2, h3⟩ := h1.tuple_inv
        obtain ⟨v', h4, h5⟩ := h3.get (i := i) (v := v) (by simpa using hp)
        refine ⟨v', ?_, h5⟩
        simp only [execOp, h2, Instr.extract, h4, Sem.run_bind, Sem.run_pure, Result.andThen_ok]
    · cases hv
  -- len
  · rename_i x t
    split at hv
    · rename_i b n cap e hx hs
      cases hv
      have h1 := hev x (by simp [Op.operands, Call.operands])
      rw [hx] at h1
      have h2 : ∃ b', a.eval x = .slice b' n cap := by
        generalize a.eval x = u at h1
        cases h1 with
        | plain h => exact ⟨b, rfl⟩
        | slice h => exact ⟨_, rfl⟩
        | wild => exact ⟨_, rfl⟩
      obtain ⟨b', h2⟩ := h2
      refine ⟨.int .i64 n, ?_, .plain rfl⟩
      simp only [execOp, resolve, invoke, builtin, Sem.run_bind, Sem.run_pure, Result.andThen_ok, List.map_toArray, List.map_cons, List.map_nil, h2, Builtin.len_,
        List.getElem?_toArray, List.getElem?_cons_zero, sl_run hs, goInt]
    · cases hv
  -- cap
  · rename_i x t
    split at hv
    · rename_i b len n e hx hs
      cases hv
      have h1 := hev x (by simp [Op.operands, Call.operands])
      rw [hx] at h1
      have h2 : ∃ b', a.eval x = .slice b' len n := by
        generalize a.eval x = u at h1
        cases h1 with
        | plain h => exact ⟨b, rfl⟩
        | slice h => exact ⟨_, rfl⟩
        | wild => exact ⟨_, rfl⟩
      obtain ⟨b', h2⟩ := h2
      refine ⟨.int .i64 n, ?_, .plain rfl⟩
      simp only [execOp, resolve, invoke, builtin, Sem.run_bind, Sem.run_pure, Result.andThen_ok, List.map_toArray, List.map_cons, List.map_nil, h2, Builtin.cap_,
        List.getElem?_toArray, List.getElem?_cons_zero, sl_run hs, goInt]
    · cases hv
  -- min
  · rename_i x y ts
    split at hv
    · rename_i k n k' n' hx hy
      cases hv
      have h1 := hev x (by simp [Op.operands, Call.operands])
      have h2 := hev y (by simp [Op.operands, Call.operands])
      rw [hx] at h1
      rw [hy] at h2
      refine ⟨_, ?_, .plain (by rfl)⟩
      simp only [execOp, resolve, invoke, builtin, Sem.run_bind, Sem.run_pure, Result.andThen_ok, List.map_toArray, List.map_cons, List.map_nil, h1.int_inv, h2.int_inv, Builtin.min_, List.foldlM_cons, List.foldlM_nil, Builtin.min2]
    · cases hv
  · cases hv

end ops

end Go.Proofs.Ytdfkcijholopoaa.Vm
