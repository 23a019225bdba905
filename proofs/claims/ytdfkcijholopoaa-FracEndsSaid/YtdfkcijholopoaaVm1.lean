/- A small library of this claim's own: virtual states, and how real frames and worlds stand to them. -/
import Derived.Test.YtdfkcijholopoaaChecked
import Derived.Orders
import Derived.Still
import Derived.Below
import Derived.Laws.CopyRow
import Derived.Laws.Rows
import Derived.Tactics
import Derived.KernelRfl
namespace Go.Proofs.Ytdfkcijholopoaa.Vm
open Go

def upd {α : Type} (f : Nat → α) (k : Nat) (v : α) : Nat → α := fun i => if i = k then v else f i
theorem upd_apply {α : Type} (f : Nat → α) (k : Nat) (v : α) (i : Nat) : upd f k v i = if i = k then v else f i := rfl
theorem upd_same {α : Type} (f : Nat → α) (k : Nat) (v : α) : upd f k v k = v := if_pos rfl
theorem upd_ne {α : Type} (f : Nat → α) {k i : Nat} (v : α) (h : i ≠ k) : upd f k v i = f i := if_neg h
theorem upd_comm {α : Type} (f : Nat → α) {k i : Nat} (v u : α) (h : i ≠ k) : upd (upd f k v) i u = upd (upd f i u) k v := by
  funext j
  simp only [upd]
  by_cases h1 : j = i
  · subst h1; simp [h]
  · by_cases h2 : j = k
    · subst h2; simp [h1]
    · simp [h1, h2]

mutual
/-- No address in it. -/
def plain : Value → Bool
  | .pointer (some _) => false
  | .slice (some _) _ _ => false
  | .map (some _) => false
  | .chan (some _) => false
  | .func _ a c => plainA a && plainA c
  | .iface _ v => plain v
  | .agg cs => plainA cs
  | .tuple vs => plainA vs
  | _ => true
def plainA : Array Value → Bool
  | ⟨l⟩ => plainL l
def plainL : List Value → Bool
  | [] => true
  | v :: l => plain v && plainL l
end

theorem plainL_iff (l : List Value) : plainL l = true ↔ ∀ v ∈ l, plain v = true := by
  induction l with
  | nil => simp [plainL]
  | cons v l ih => simp [plainL, ih]
theorem plainA_get {c : Array Value} (h : plainA c = true) {i : Nat} {v : Value} (hv : c[i]? = some v) : plain v = true := by
  obtain ⟨l⟩ := c
  exact (plainL_iff l).1 (by simpa [plainA] using h) v (List.mem_of_getElem? (by simpa using hv))

/-- A value of which nothing is known (a slot that nobody reads any more). -/
def junk : Value := .chan (some 0)
def isJ : Value → Bool
  | .chan (some _) => true
  | _ => false

/-- How a real value stands to a virtual one: virtual block names go to real blocks, each with an offset. -/
inductive Rel (ρ : Nat → Option (Nat × Nat)) : Value → Value → Prop
  | plain {v : Value} : plain v = true → Rel ρ v v
  | ptr {m k r o : Nat} : ρ m = some (r, o) → Rel ρ (.pointer (some ⟨m, k, none⟩)) (.pointer (some ⟨r, o + k, none⟩))
  | slice {m k r o l c : Nat} : ρ m = some (r, o) → Rel ρ (.slice (some ⟨m, k, none⟩) l c) (.slice (some ⟨r, o + k, none⟩) l c)
  | map {m r : Nat} : ρ m = some (r, 0) → Rel ρ (.map (some m)) (.map (some r))
  | func {fn : Fn} {a a' c c' : Array Value} : a.size = a'.size → (∀ (i : Nat) (v v' : Value), a[i]? = some v → a'[i]? = some v' → Rel ρ v v') →
      c.size = c'.size → (∀ (i : Nat) (v v' : Value), c[i]? = some v → c'[i]? = some v' → Rel ρ v v') → Rel ρ (.func fn a c) (.func fn a' c')
  | agg {c c' : Array Value} : c.size = c'.size → (∀ (i : Nat) (v v' : Value), c[i]? = some v → c'[i]? = some v' → Rel ρ v v') → Rel ρ (.agg c) (.agg c')
  | tuple {c c' : Array Value} : c.size = c'.size → (∀ (i : Nat) (v v' : Value), c[i]? = some v → c'[i]? = some v' → Rel ρ v v') → Rel ρ (.tuple c) (.tuple c')

def RelA (ρ : Nat → Option (Nat × Nat)) (c c' : Array Value) : Prop := c.size = c'.size ∧ ∀ (i : Nat) (v v' : Value), c[i]? = some v → c'[i]? = some v' → Rel ρ v v'
def RelL (ρ : Nat → Option (Nat × Nat)) (c c' : List Value) : Prop := c.length = c'.length ∧ ∀ (i : Nat) (v v' : Value), c[i]? = some v → c'[i]? = some v' → Rel ρ v v'

def Ext (ρ ρ' : Nat → Option (Nat × Nat)) : Prop := ∀ m x, ρ m = some x → ρ' m = some x
theorem Ext.refl (ρ : Nat → Option (Nat × Nat)) : Ext ρ ρ := fun _ _ h => h
theorem Ext.trans {a b c : Nat → Option (Nat × Nat)} (h : Ext a b) (k : Ext b c) : Ext a c := fun m x hx => k m x (h m x hx)
theorem Ext.upd {ρ : Nat → Option (Nat × Nat)} {m : Nat} (h : ρ m = none) (x : Option (Nat × Nat)) : Ext ρ (upd ρ m x) := by
  intro k y hy
  by_cases hk : k = m
  · subst hk; rw [h] at hy; cases hy
  · rw [upd_ne _ _ hk]; exact hy

theorem Rel.ext {ρ ρ' : Nat → Option (Nat × Nat)} (he : Ext ρ ρ') {v u : Value} (h : Rel ρ v u) : Rel ρ' v u := by
  induction h with
  | plain h => exact .plain h
  | ptr h => exact .ptr (he _ _ h)
  | slice h => exact .slice (he _ _ h)
  | map h => exact .map (he _ _ h)
  | func h1 _ h2 _ ih1 ih2 => exact .func h1 ih1 h2 ih2
  | agg h1 _ ih => exact .agg h1 ih
  | tuple h1 _ ih => exact .tuple h1 ih
theorem RelA.ext {ρ ρ' : Nat → Option (Nat × Nat)} (he : Ext ρ ρ') {v u : Array Value} (h : RelA ρ v u) : RelA ρ' v u := ⟨h.1, fun i v v' a b => (h.2 i v v' a b).ext he⟩
theorem RelL.ext {ρ ρ' : Nat → Option (Nat × Nat)} (he : Ext ρ ρ') {v u : List Value} (h : RelL ρ v u) : RelL ρ' v u := ⟨h.1, fun i v v' a b => (h.2 i v v' a b).ext he⟩

theorem array_eq_of_rel {c c' : Array Value} (hs : c.size = c'.size) (h : ∀ (i : Nat) (v v' : Value), c[i]? = some v → c'[i]? = some v' → v' = v) : c' = c := by
  apply Array.ext
  · exact hs.symm
  · intro i h1 h2
    exact h i c[i] c'[i] (by simp [h2]) (by simp [h1])

/-- A plain value stands for itself. -/
theorem Rel.eq_of_plain {ρ : Nat → Option (Nat × Nat)} {v u : Value} (h : Rel ρ v u) : Vm.plain v = true → u = v := by
  induction h with
  | plain _ => intro _; rfl
  | ptr _ => intro h; simp [Vm.plain] at h
  | slice _ => intro h; simp [Vm.plain] at h
  | map _ => intro h; simp [Vm.plain] at h
  | func h1 _ h2 _ ih1 ih2 =>
    intro h
    simp only [Vm.plain, Bool.and_eq_true] at h
    rw [array_eq_of_rel h1 fun i v v' a b => ih1 i v v' a b (plainA_get h.1 a), array_eq_of_rel h2 fun i v v' a b => ih2 i v v' a b (plainA_get h.2 a)]
  | agg h1 _ ih =>
    intro h
    simp only [Vm.plain] at h
    rw [array_eq_of_rel h1 fun i v v' a b => ih i v v' a b (plainA_get h a)]
  | tuple h1 _ ih =>
    intro h
    simp only [Vm.plain] at h
    rw [array_eq_of_rel h1 fun i v v' a b => ih i v v' a b (plainA_get h a)]

theorem RelA.refl_of_plain {ρ : Nat → Option (Nat × Nat)} {c : Array Value} (h : plainA c = true) : RelA ρ c c :=
  ⟨rfl, fun i v v' a b => by rw [a] at b; cases b; exact .plain (plainA_get h a)⟩
theorem Rel.agg' {ρ : Nat → Option (Nat × Nat)} {c c' : Array Value} (h : RelA ρ c c') : Rel ρ (.agg c) (.agg c') := .agg h.1 h.2
theorem Rel.tuple' {ρ : Nat → Option (Nat × Nat)} {c c' : Array Value} (h : RelA ρ c c') : Rel ρ (.tuple c) (.tuple c') := .tuple h.1 h.2

theorem Rel.agg_inv {ρ : Nat → Option (Nat × Nat)} {c : Array Value} {u : Value} (h : Rel ρ (.agg c) u) : ∃ c', u = .agg c' ∧ RelA ρ c c' := by
  cases h with
  | plain h => exact ⟨c, rfl, RelA.refl_of_plain (by simpa [Vm.plain] using h)⟩
  | agg h1 h2 => exact ⟨_, rfl, h1, h2⟩
theorem Rel.tuple_inv {ρ : Nat → Option (Nat × Nat)} {c : Array Value} {u : Value} (h : Rel ρ (.tuple c) u) : ∃ c', u = .tuple c' ∧ RelA ρ c c' := by
  cases h with
  | plain h => exact ⟨c, rfl, RelA.refl_of_plain (by simpa [Vm.plain] using h)⟩
  | tuple h1 h2 => exact ⟨_, rfl, h1, h2⟩
theorem Rel.ptr_inv {ρ : Nat → Option (Nat × Nat)} {m k : Nat} {u : Value} (h : Rel ρ (.pointer (some ⟨m, k, none⟩)) u) : ∃ r o, ρ m = some (r, o) ∧ u = .pointer (some ⟨r, o + k, none⟩) := by
  cases h with
  | plain h => simp [Vm.plain] at h
  | ptr h => exact ⟨_, _, h, rfl⟩
theorem Rel.slice_inv {ρ : Nat → Option (Nat × Nat)} {m k l c : Nat} {u : Value} (h : Rel ρ (.slice (some ⟨m, k, none⟩) l c) u) : ∃ r o, ρ m = some (r, o) ∧ u = .slice (some ⟨r, o + k, none⟩) l c := by
  cases h with
  | plain h => simp [Vm.plain] at h
  | slice h => exact ⟨_, _, h, rfl⟩
theorem Rel.map_inv {ρ : Nat → Option (Nat × Nat)} {m : Nat} {u : Value} (h : Rel ρ (.map (some m)) u) : ∃ r, ρ m = some (r, 0) ∧ u = .map (some r) := by
  cases h with
  | plain h => simp [Vm.plain] at h
  | map h => exact ⟨_, h, rfl⟩
theorem Rel.func_inv {ρ : Nat → Option (Nat × Nat)} {fn : Fn} {a c : Array Value} {u : Value} (h : Rel ρ (.func fn a c) u) : ∃ a' c', u = .func fn a' c' ∧ RelA ρ a a' ∧ RelA ρ c c' := by
  cases h with
  | plain h =>
    simp only [Vm.plain, Bool.and_eq_true] at h
    exact ⟨a, c, rfl, RelA.refl_of_plain h.1, RelA.refl_of_plain h.2⟩
  | func h1 h2 h3 h4 => exact ⟨_, _, rfl, ⟨h1, h2⟩, ⟨h3, h4⟩⟩
theorem Rel.int_inv {ρ : Nat → Option (Nat × Nat)} {k : IntKind} {n : Int} {u : Value} (h : Rel ρ (.int k n) u) : u = .int k n := h.eq_of_plain rfl
theorem Rel.bool_inv {ρ : Nat → Option (Nat × Nat)} {b : Bool} {u : Value} (h : Rel ρ (.bool b) u) : u = .bool b := h.eq_of_plain rfl

theorem RelA.get {ρ : Nat → Option (Nat × Nat)} {c c' : Array Value} (h : RelA ρ c c') {i : Nat} {v : Value} (hv : c[i]? = some v) : ∃ v', c'[i]? = some v' ∧ Rel ρ v v' := by
  have hi : i < c.size := by
    rcases Nat.lt_or_ge i c.size with h' | h'
    · exact h'
    · rw [Array.getElem?_eq_none h'] at hv; cases hv
  have hi' : i < c'.size := h.1 ▸ hi
  exact ⟨c'[i], by simp [hi'], h.2 i v _ hv (by simp [hi'])⟩
theorem RelL.get {ρ : Nat → Option (Nat × Nat)} {c c' : List Value} (h : RelL ρ c c') {i : Nat} {v : Value} (hv : c[i]? = some v) : ∃ v', c'[i]? = some v' ∧ Rel ρ v v' := by
  have hi : i < c.length := by
    rcases Nat.lt_or_ge i c.length with h' | h'
    · exact h'
    · rw [List.getElem?_eq_none h'] at hv; cases hv
  have hi' : i < c'.length := h.1 ▸ hi
  exact ⟨c'[i], by simp [hi'], h.2 i v _ hv (by simp [hi'])⟩
theorem RelL.toA {ρ : Nat → Option (Nat × Nat)} {c c' : List Value} (h : RelL ρ c c') : RelA ρ c.toArray c'.toArray := ⟨by simpa using h.1, fun i v v' a b => h.2 i v v' (by simpa using a) (by simpa using b)⟩
theorem RelA.toL {ρ : Nat → Option (Nat × Nat)} {c c' : Array Value} (h : RelA ρ c c') : RelL ρ c.toList c'.toList := ⟨by simpa using h.1, fun i v v' a b => h.2 i v v' (by simpa using a) (by simpa using b)⟩

/-- One block of the virtual heap: a row of cells (own: written at will, known whole; else a window on a real block, only read), or an object that holds no address. -/
inductive Blk where
  | cells (c : List Value) (t : TypeId) (own : Bool)
  | obj (o : Obj)

def Blk.own : Blk → Bool
  | .cells _ _ b => b
  | .obj _ => true

/-- How a real block stands to a virtual one (o: where its window begins). -/
def RObj (ρ : Nat → Option (Nat × Nat)) (b : Blk) (o : Nat) (x : Option Obj) : Prop :=
  match b with
  | .cells c t true => ∃ c' : Array Value, x = some (.cells c' t (0, 0)) ∧ o = 0 ∧ RelL ρ c c'.toList
  | .cells c _ false => ∃ (c' : Array Value) (t' : TypeId) (fz : Nat × Nat), x = some (.cells c' t' fz) ∧ ∀ (i : Nat) (v : Value), c[i]? = some v → ∃ v', c'[o + i]? = some v' ∧ Rel ρ v v'
  | .obj ob => x = some ob ∧ o = 0

theorem RObj.ext {ρ ρ' : Nat → Option (Nat × Nat)} (he : Ext ρ ρ') {b : Blk} {o : Nat} {x : Option Obj} (h : RObj ρ b o x) : RObj ρ' b o x := by
  cases b with
  | cells c t own =>
    cases own with
    | true => obtain ⟨c', h1, h2, h3⟩ := h; exact ⟨c', h1, h2, h3.ext he⟩
    | false =>
      obtain ⟨c', t', fz, h1, h2⟩ := h
      exact ⟨c', t', fz, h1, fun i v hv => let ⟨v', a, b⟩ := h2 i v hv; ⟨v', a, b.ext he⟩⟩
  | obj ob => exact h

/-- A cell of a virtual block is a cell of the real one. -/
theorem RObj.cell {ρ : Nat → Option (Nat × Nat)} {c : List Value} {t : TypeId} {own : Bool} {o : Nat} {x : Option Obj} (h : RObj ρ (.cells c t own) o x) {i : Nat} {v : Value} (hv : c[i]? = some v) :
    ∃ (c' : Array Value) (t' : TypeId) (fz : Nat × Nat) (v' : Value), x = some (.cells c' t' fz) ∧ c'[o + i]? = some v' ∧ Rel ρ v v' := by
  cases own with
  | true =>
    obtain ⟨c', h1, rfl, h3⟩ := h
    obtain ⟨v', a, b⟩ := h3.get hv
    exact ⟨c', t, (0, 0), v', h1, by simpa using a, b⟩
  | false =>
    obtain ⟨c', t', fz, h1, h2⟩ := h
    obtain ⟨v', a, b⟩ := h2 i v hv
    exact ⟨c', t', fz, v', h1, a, b⟩

structure St where
  t : Nat → Value
  h : Nat → Option Blk
  n : Nat

def St.ev (s : St) : Operand → Value
  | .tmp k => s.t k
  | .const v => v
  | .global g => .pointer (some ⟨g, 0, none⟩)
  | .func f => .func (.func f) #[] #[]

/-- The heap's part: what each named block holds; own blocks may be written (M), and are no other name's. -/
structure RH (M : Nat → Prop) (ρ : Nat → Option (Nat × Nat)) (h : Nat → Option Blk) (w : World) : Prop where
  blk : ∀ m b, h m = some b → ∃ r o, ρ m = some (r, o) ∧ RObj ρ b o w.heap[r]? ∧ (b.own = true → M r)
  inj : ∀ m m' b b' r o r' o', h m = some b → h m' = some b' → m ≠ m' → b.own = true → ρ m = some (r, o) → ρ m' = some (r', o') → r ≠ r'
  new : ∀ r, w.heap.size ≤ r → M r

/-- What was there when the call began is as it was, but for the blocks of M. -/
structure Kept (M : Nat → Prop) (w0 w : World) : Prop where
  os : w.os = w0.os
  tape : w.tape = w0.tape
  output : w.output = w0.output
  size : w0.heap.size ≤ w.heap.size
  block : ∀ r, ¬ M r → w.heap[r]? = w0.heap[r]?

theorem Kept.refl (M : Nat → Prop) (w : World) : Kept M w w := ⟨rfl, rfl, rfl, Nat.le_refl _, fun _ _ => rfl⟩
theorem Kept.trans {M : Nat → Prop} {a b c : World} (h : Kept M a b) (k : Kept M b c) : Kept M a c :=
  ⟨k.os.trans h.os, k.tape.trans h.tape, k.output.trans h.output, Nat.le_trans h.size k.size, fun r hr => (k.block r hr).trans (h.block r hr)⟩
theorem Kept.mono {M M' : Nat → Prop} {a b : World} (h : Kept M a b) (hm : ∀ r, M r → M' r) : Kept M' a b :=
  ⟨h.os, h.tape, h.output, h.size, fun r hr => h.block r fun hm' => hr (hm r hm')⟩

/-- The frame and the world stand for the virtual state; 'fr': names that are still free. -/
structure RR (M : Nat → Prop) (w0 : World) (N : Nat) (fr : Nat → Prop) (ρ : Nat → Option (Nat × Nat)) (s : St) (a : Act) (w : World) : Prop where
  size : a.tmps.size = N
  defers : a.defers = []
  tmp : ∀ k, isJ (s.t k) = false → Rel ρ (s.t k) (a.tmps.getD k undef)
  heap : RH M ρ s.h w
  fresh : ∀ m, fr m → ρ m = none
  kept : Kept M w0 w

end Go.Proofs.Ytdfkcijholopoaa.Vm
