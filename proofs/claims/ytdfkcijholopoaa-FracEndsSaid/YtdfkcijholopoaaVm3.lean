/- What one core operation does to a virtual state ('vex'), as a function. -/
import Derived.Test.YtdfkcijholopoaaVm2
import Derived.Laws.StructEq
namespace Go.Proofs.Ytdfkcijholopoaa.Vm
open Go

/-- What an operation does: a value; a value read from block m; a new block, and the value that names it; block m written. -/
inductive Ef where
  | val (v : Value)
  | rd (m : Nat) (v : Value)
  | new (b : Blk) (p : Nat → Value)
  | set (m : Nat) (b : Blk)

def ptr (m : Nat) : Value := .pointer (some ⟨m, 0, none⟩)

def partAt (ag : Bool) (n : Nat) (c : List Value) (k : Nat) : Option Value :=
  match ag with
  | true => if k = 0 ∧ c.length = n then some (.agg c.toArray) else if k + n ≤ c.length then some (.agg ((c.drop k).take n).toArray) else none
  | false => c[k]?

def setAt (n : Nat) (c : List Value) (k : Nat) (v : Value) : Option (List Value) :=
  match v with
  | .agg cs =>
    if cs.size = n ∧ cs.toList.all (·.oneCell') = true then
      (if k = 0 ∧ c.length = n then some cs.toList else if k + n ≤ c.length then some (c.take k ++ cs.toList ++ c.drop (k + n)) else none)
    else none
  | v => if n = 1 ∧ v.oneCell' = true ∧ k < c.length then some (c.set k v) else none

def fillL (place : Nat → Option (Nat × Nat)) : List Value → List (Nat × Value) → Option (List Value)
  | c, [] => some c
  | c, (i, v) :: rest =>
    match place i with
    | none => none
    | some (off, sz) =>
      if v.cells.size = sz ∧ off + sz ≤ c.length then fillL place (c.take off ++ v.cells.toList ++ c.drop (off + sz)) rest else none

def zrow : Nat → List Value → List Value
  | 0, _ => []
  | n + 1, z => z ++ zrow n z

def ibin (op : BinOp) (k k' : IntKind) (a b : Int) : Option Value :=
  match op with
  | .shl => if b < 0 then none else some (.int k (k.wrap (a * 2 ^ (min b.toNat k.bits))))
  | .shr => if b < 0 then none else some (.int k (a.fdiv (2 ^ (min b.toNat k.bits))))
  | .add => if k = k' then some (.int k (k.wrap (a + b))) else none
  | .sub => if k = k' then some (.int k (k.wrap (a - b))) else none
  | .mul => if k = k' then some (.int k (k.wrap (a * b))) else none
  | .and => if k = k' then some (.int k (k.wrap (BitVec.ofInt k.bits a &&& BitVec.ofInt k.bits b).toNat)) else none
  | .or => if k = k' then some (.int k (k.wrap (BitVec.ofInt k.bits a ||| BitVec.ofInt k.bits b).toNat)) else none
  | .eql => if k = k' then some (.bool (a == b)) else none
  | .neq => if k = k' then some (.bool (a != b)) else none
  | .lss => if k = k' then some (.bool (a < b)) else none
  | .leq => if k = k' then some (.bool (a ≤ b)) else none
  | .gtr => if k = k' then some (.bool (a > b)) else none
  | .geq => if k = k' then some (.bool (a ≥ b)) else none
  | .quo => if k = k' then (if b = 0 then none else some (.int k (k.wrap (a.tdiv b)))) else none
  | .rem => if k = k' then (if b = 0 then none else some (.int k (a.tmod b))) else none
  | _ => none

def unB : List Value → Option (List Bool)
  | [] => some []
  | .bool b :: l => (unB l).map (b :: ·)
  | _ :: _ => none
theorem unB_bools (l : List Bool) : unB (l.map Value.bool) = some l := by
  induction l with
  | nil => rfl
  | cons b l ih => simp [unB, ih]
theorem unB_eq {c : List Value} {l : List Bool} (h : unB c = some l) : c = l.map Value.bool := by
  induction c generalizing l with
  | nil => simp [unB] at h; subst h; rfl
  | cons v c ih =>
    cases v <;> simp [unB] at h
    obtain ⟨l', h1, rfl⟩ := h
    simp [ih h1]

/-- Are two structs or arrays of type t the same? -/
def aeq (t : Nat) (c d : List Value) : Option Bool :=
  match t with
  | 24 => match c, d with
    | [.int .u64 a, .int .u64 b], [.int .u64 a', .int .u64 b'] => some (a == a' && b == b')
    | _, _ => none
  | 58 => match c, d with
    | [.int .u64 a, .int .u64 b, .int .u64 e], [.int .u64 a', .int .u64 b', .int .u64 e'] => some (a == a' && b == b' && e == e')
    | _, _ => none
  | 67 => match c, d with
    | [.int .i64 x, .int .i64 y, .int .u64 a, .int .u64 b, .int .u64 e], [.int .i64 x', .int .i64 y', .int .u64 a', .int .u64 b', .int .u64 e'] =>
      some (x == x' && y == y' && (a == a' && b == b' && e == e'))
    | _, _ => none
  | 32 => match unB c, unB d with
    | some l, some l' => if l.length = 256 ∧ l'.length = 256 then some (l == l') else none
    | _, _ => none
  | 116 => match c, d with
    | [.int .u64 a, .int .u64 b, .int .u64 e, .int .u64 f, .int .u64 g, .int .u64 i, .int .u64 j], [.int .u64 a', .int .u64 b', .int .u64 e', .int .u64 f', .int .u64 g', .int .u64 i', .int .u64 j'] =>
      some (a == a' && b == b' && e == e' && f == f' && g == g' && i == i' && j == j')
    | _, _ => none
  | _ => none

def vbin (op : BinOp) (t : Nat) (x y : Value) : Option Value :=
  match x, y with
  | .int k a, .int k' b => ibin op k k' a b
  | .bool a, .bool b => if t = 4 then (match op with | .eql => some (.bool (a == b)) | .neq => some (.bool !(a == b)) | _ => none) else none
  | .agg c, .agg d => (aeq t c.toList d.toList).bind fun r => match op with | .eql => some (.bool r) | .neq => some (.bool !r) | _ => none
  | .slice a _ _, .slice none _ _ => if t = 53 then (match op with | .eql => some (.bool a.isNone) | .neq => some (.bool !a.isNone) | _ => none) else none
  | _, _ => none

def vindex (len sz : Nat) (k : Nat) (m : Nat) (n : Int) : Option Value :=
  if 0 ≤ n ∧ n < len then some (.pointer (some ⟨m, k + n.toNat * sz, none⟩)) else none

def ikind (t : Nat) : Option IntKind :=
  match t with
  | 2 => some .i64
  | 3 => some .i64
  | 21 => some .i32
  | 22 => some .u64
  | 123 => some .u64
  | _ => none

/-- The bounds of a slicing: low, high, max. -/
def sbounds (len cap : Nat) (lo hi mx : Option Value) : Option (Nat × Nat × Nat) :=
  let bound (v : Value) (y : Nat) : Option Nat := match v with | .int _ i => if 0 ≤ i ∧ i ≤ y then some i.toNat else none | _ => none
  (match mx with | some v => bound v cap | none => some cap).bind fun m =>
  (match hi, mx with | some v, some _ => bound v m | some v, none => bound v cap | none, none => some len | none, some _ => none).bind fun h =>
  (match lo with | some v => bound v h | none => some 0).bind fun l => some (l, h, m)

def vex (ev : Operand → Value) (h : Nat → Option Blk) : Op → Option Ef
  | .move x => some (.val (ev x))
  | .assign x => some (.val (ev x))
  | .pick c a b => match ev c with
    | .bool t => some (.val (match t with | true => ev a | false => ev b))
    | _ => none
  | .alloc t => match ty t with
    | some (_, z) => some (.new (.cells z t true) ptr)
    | none => none
  | .box t x => some (.new (.cells (ev x).cells.toList t true) ptr)
  | .build t parts => match ty t, flds t, arr t with
    | some (_, z), some l, _ => (fillL (l[·]?) z (parts.toList.map fun (i, x) => (i, ev x))).map fun c => .val (.agg c.toArray)
    | some (_, z), none, some (_, e) => match ty e with
      | some (_, ze) => (fillL (fun i => some (i * ze.length, ze.length)) z (parts.toList.map fun (i, x) => (i, ev x))).map fun c => .val (.agg c.toArray)
      | none => none
    | _, _, _ => none
  | .buildSlice t n parts => match sl t with
    | some e => match ty e with
      | some (_, z) => if n * z.length ≤ 1000 then
          (fillL (fun i => some (i * z.length, z.length)) (zrow n z) (parts.toList.map fun (i, x) => (i, ev x))).map fun c => .new (.cells c e true) fun m => .slice (some ⟨m, 0, none⟩) n n
        else none
      | none => none
    | none => none
  | .load t x => match ev x, ty t with
    | .pointer (some ⟨m, k, none⟩), some (ag, z) => match h m with
      | some (.cells c _ _) => (partAt ag z.length c k).map (Ef.rd m)
      | _ => none
    | _, _ => none
  | .store t x y => match ev x, ty t with
    | .pointer (some ⟨m, k, none⟩), some (_, z) => match h m with
      | some (.cells c e true) => (setAt z.length c k (ev y)).map fun c' => Ef.set m (.cells c' e true)
      | _ => none
    | _, _ => none
  | .nilCheck x => match ev x with
    | .pointer (some a) => some (.val (.pointer (some a)))
    | .func (.func f) a c => some (.val (.func (.func f) a c))
    | _ => none
  | .binOp op t x y _ => (vbin op t (ev x) (ev y)).map .val
  | .unOp .not _ x => match ev x with
    | .bool b => some (.val (.bool !b))
    | _ => none
  | .unOp .neg _ x => match ev x with
    | .int k n => some (.val (.int k (k.wrap (0 - n))))
    | _ => none
  | .convert t0 t x => match ev x, ikind t0, ikind t with
    | .int _ n, some _, some k => some (.val (.int k (k.wrap n)))
    | _, _, _ => none
  | .makeFunc fn first captured => some (.val (.func fn (first.toList.map ev).toArray (captured.toList.map ev).toArray))
  | .fieldAddr t x f => match ev x, flds t with
    | .pointer (some ⟨m, k, none⟩), some l => match l[f]? with
      | some (off, _) => some (.val (.pointer (some ⟨m, k + off, none⟩)))
      | none => none
    | _, _ => none
  | .indexAddr t x i => match ev x, ev i with
    | .pointer (some ⟨m, k, none⟩), .int _ n => match arr t with
      | some (len, e) => match ty e with
        | some (_, z) => (vindex len z.length k m n).map .val
        | none => none
      | none => none
    | .slice (some ⟨m, k, none⟩) len _, .int _ n => match sl t with
      | some e => match ty e with
        | some (_, z) => (vindex len z.length k m n).map .val
        | none => none
      | none => none
    | _, _ => none
  | .index t x i => match ev x, ev i, arr t with
    | .agg cs, .int _ n, some (len, e) => match ty e with
      | some (false, _) => if 0 ≤ n ∧ n < len then (cs.toList[n.toNat]?).map .val else none
      | _ => none
    | _, _, _ => none
  | .slice t x lo hi mx => match ev x, sl t with
    | .slice a len cap, some e => match ty e with
      | some (_, z) => (sbounds len cap (lo.map ev) (hi.map ev) (mx.map ev)).map fun (l, h, m) =>
          .val (.slice (if m = l then a else a.map fun b => ⟨b.block, b.off + l * z.length, none⟩) (h - l) (m - l))
      | none => none
    | _, _ => none
  | .extract x i => match ev x with
    | .tuple vs => (vs.toList[i]?).map .val
    | _ => none
  | .call { callee := .builtin .len, args := ⟨[x]⟩, argTypes := ⟨[t]⟩ } => match ev x, sl t with
    | .slice _ n _, some _ => some (.val (.int .i64 n))
    | _, _ => none
  | .call { callee := .builtin .cap, args := ⟨[x]⟩, argTypes := ⟨[t]⟩ } => match ev x, sl t with
    | .slice _ _ n, some _ => some (.val (.int .i64 n))
    | _, _ => none
  | .call { callee := .builtin .min, args := ⟨[x, y]⟩, argTypes := _ } => match ev x, ev y with
    | .int k a, .int _ b => some (.val (.int k (if b < a then b else a)))
    | _, _ => none
  | _ => none

end Go.Proofs.Ytdfkcijholopoaa.Vm
