/- The walks' own evaluator: the state in its parts, each value laid in its head's form. -/
import Derived.Test.YtdfkcijholopoaaVm13
namespace Go.Proofs.Ytdfkcijholopoaa.Vm
open Go Go.RowKit
set_option linter.unusedSimpArgs false

/-- k v, the value's head written out. -/
def force {α : Type} (v : Value) (k : Value → α) : α :=
  match v with
  | .bool b => k (.bool b)
  | .int i n => k (.int i n)
  | .float a b => k (.float a b)
  | .complex a b c => k (.complex a b c)
  | .string s => k (.string s)
  | .pointer a => k (.pointer a)
  | .slice a l c => k (.slice a l c)
  | .map r => k (.map r)
  | .chan r => k (.chan r)
  | .func f a c => k (.func f a c)
  | .nilFunc => k .nilFunc
  | .iface t v => k (.iface t v)
  | .nilIface => k .nilIface
  | .agg c => k (.agg c)
  | .tuple c => k (.tuple c)
theorem force_eq {α : Type} (v : Value) (k : Value → α) : force v k = k v := by cases v <;> rfl

def forceL {α : Type} (l : List Value) (k : List Value → α) : α :=
  match l with
  | [] => k []
  | v :: l => force v fun v => forceL l fun l => k (v :: l)
theorem forceL_eq {α : Type} (l : List Value) : ∀ k : List Value → α, forceL l k = k l := by
  induction l with
  | nil => intro k; rfl
  | cons v l ih => intro k; simp only [forceL, force_eq, ih]
/-- The types whose cells are written out one by one. -/
def small (t : Nat) : Bool :=
  match t with
  | 32 => false
  | 116 => false
  | _ => true
def forceV {α : Type} (b : Bool) (v : Value) (k : Value → α) : α :=
  match b with
  | true => match v with
    | .agg c => forceL c.toList fun l => k (.agg l.toArray)
    | v => force v k
  | false => force v k
theorem forceV_eq {α : Type} (b : Bool) (v : Value) (k : Value → α) : forceV b v k = k v := by
  cases b with
  | false => exact force_eq v k
  | true => cases v <;> first | rfl | (simp only [forceV, forceL_eq, Array.toArray_toList]) | exact force_eq _ k
def forceB {α : Type} (b : Blk) (k : Blk → α) : α :=
  match b with
  | .cells c t own => match small t with
    | true => forceL c fun c => k (.cells c t own)
    | false => k (.cells c t own)
  | .obj o => k (.obj o)
theorem forceB_eq {α : Type} (b : Blk) (k : Blk → α) : forceB b k = k b := by
  cases b with
  | cells c t own => simp only [forceB, forceL_eq]; split <;> rfl
  | obj o => rfl
def opSmall : Op → Bool
  | .build t _ => small t
  | .load t _ => small t
  | _ => false

def evT (t : Nat → Value) : Operand → Value
  | .tmp k => t k
  | .const v => v
  | .global g => .pointer (some ⟨g, 0, none⟩)
  | .func f => .func (.func f) #[] #[]
theorem evT_eq (t : Nat → Value) (h : Nat → Option Blk) (n : Nat) : evT t = St.ev ⟨t, h, n⟩ := by funext x; cases x <;> rfl

def putT (t : Nat → Value) (d : Option Nat) (v : Value) : Nat → Value :=
  match d with
  | some k => upd t k v
  | none => t
theorem app_putT (t : Nat → Value) (h : Nat → Option Blk) (n : Nat) (d : Option Nat) (v : Value) (u : List (Nat × Blk)) : (⟨t, h, n⟩ : St).app d v u = ⟨putT t d v, updL h u, bump n u⟩ := by cases d <;> rfl

/-- A number written out (z: it may hang on a variable: left as it is). -/
def forceN {α : Type} (z : Bool) (n : Nat) (k : Nat → α) : α :=
  match z with
  | true => k n
  | false => match n with
    | 0 => k 0
    | m + 1 => k (m + 1)
theorem forceN_eq {α : Type} (z : Bool) (n : Nat) (k : Nat → α) : forceN z n k = k n := by
  cases z
  · cases n <;> rfl
  · rfl

/-- The run over core operations (no other may come). -/
def go (z : Bool) (ops : Array Oper) (base : Nat) : Nat → List Oper → (Nat → Value) → (Nat → Option Blk) → Nat → ((Nat → Value) → (Nat → Option Blk) → Nat → Prop) → Prop
  | _, [], t, h, n, K => K t h n
  | i, o :: rest, t, h, n, K =>
    match wantV ops o t with
    | some true => match vex (evT t) h o.op with
      | some (.val v) => forceV (opSmall o.op) v fun v => match o.dst with
        | some d => go z ops base (i + 1) rest (upd t d v) h n K
        | none => go z ops base (i + 1) rest t h n K
      | some (.rd _ v) => forceV (opSmall o.op) v fun v => match o.dst with
        | some d => go z ops base (i + 1) rest (upd t d v) h n K
        | none => go z ops base (i + 1) rest t h n K
      | some (.new b p) => forceB b fun b => forceN z (base + i) fun m => forceN z (max n (m + 1)) fun n => force (p m) fun v => match o.dst with
        | some d => go z ops base (i + 1) rest (upd t d v) (upd h m (some b)) n K
        | none => go z ops base (i + 1) rest t (upd h m (some b)) n K
      | some (.set k b) => forceB b fun b => forceN z (max n (k + 1)) fun n => match o.dst with
        | some d => go z ops base (i + 1) rest (upd t d undef) (upd h k (some b)) n K
        | none => go z ops base (i + 1) rest t (upd h k (some b)) n K
      | none => False
    | some false => match o.dst with
      | some d => go z ops base (i + 1) rest (upd t d undef) h n K
      | none => go z ops base (i + 1) rest t h n K
    | none => False

/-- One step of it. -/
def goK (ops : Array Oper) (base i : Nat) (o : Oper) (t : Nat → Value) (h : Nat → Option Blk) (n : Nat) (k : (Nat → Value) → (Nat → Option Blk) → Nat → Prop) : Prop :=
  match wantV ops o t with
  | some true => match vex (evT t) h o.op with
    | some (.val v) => k (putT t o.dst v) h n
    | some (.rd _ v) => k (putT t o.dst v) h n
    | some (.new b p) => k (putT t o.dst (p (base + i))) (upd h (base + i) (some b)) (max n (base + i + 1))
    | some (.set m b) => k (putT t o.dst undef) (upd h m (some b)) (max n (m + 1))
    | none => False
  | some false => k (putT t o.dst undef) h n
  | none => False

theorem go_cons (z : Bool) (ops : Array Oper) (base i : Nat) (o : Oper) (rest : List Oper) (t : Nat → Value) (h : Nat → Option Blk) (n : Nat) (K : (Nat → Value) → (Nat → Option Blk) → Nat → Prop) :
    go z ops base i (o :: rest) t h n K = goK ops base i o t h n fun t h n => go z ops base (i + 1) rest t h n K := by
  unfold goK
  rw [go]
  simp only [forceV_eq, forceB_eq, forceN_eq, force_eq]
  cases o.dst <;> rfl

theorem vgo_step {ops : Array Oper} {base i : Nat} {o : Oper} {rest : List Oper} {t : Nat → Value} {h : Nat → Option Blk} {n : Nat} {K : St → Prop} {k : (Nat → Value) → (Nat → Option Blk) → Nat → Prop}
    (hg : goK ops base i o t h n k) (hk : ∀ t h n, k t h n → vgo ops base (i + 1) rest ⟨t, h, n⟩ K) : vgo ops base i (o :: rest) ⟨t, h, n⟩ K := by
  unfold goK at hg
  cases hw : wantV ops o t with
  | none => rw [hw] at hg; exact hg.elim
  | some b =>
  cases b with
  | true =>
    rw [hw] at hg
    simp only at hg
    cases he : vex (evT t) h o.op with
    | none => rw [he] at hg; exact hg.elim
    | some ef =>
      rw [he] at hg
      rw [evT_eq t h n] at he
      unfold vgo
      simp only [hw, he]
      cases ef <;> (simp only at hg ⊢; rw [app_putT]; exact hk _ _ _ hg)
  | false =>
    rw [hw] at hg
    unfold vgo
    simp only [hw]
    simp only at hg
    have := hk _ _ _ hg
    cases hd : o.dst <;> (rw [hd] at this; exact this)

/-- The first m operations, then the rest. -/
theorem run_n {z : Bool} {ops : Array Oper} {base : Nat} {K : St → Prop} (m : Nat) : ∀ {i : Nat} {l : List Oper} {t : Nat → Value} {h : Nat → Option Blk} {n : Nat},
    (∀ K' : (Nat → Value) → (Nat → Option Blk) → Nat → Prop, (∀ t h n, vgo ops base (i + m) (l.drop m) ⟨t, h, n⟩ K → K' t h n) → go z ops base i (l.take m) t h n K') → m ≤ l.length → vgo ops base i l ⟨t, h, n⟩ K := by
  induction m with
  | zero =>
    intro i l t h n H _
    exact H (fun t h n => vgo ops base (i + 0) (l.drop 0) ⟨t, h, n⟩ K) fun _ _ _ h => h
  | succ m ih =>
    intro i l t h n H hm
    cases l with
    | nil => simp at hm
    | cons o l =>
      have h0 := H (fun t h n => vgo ops base (i + (m + 1)) (l.drop m) ⟨t, h, n⟩ K) fun _ _ _ h => h
      rw [List.take_succ_cons, go_cons] at h0
      refine vgo_step h0 fun t h n hg => ih (fun K' hK' => ?_) (by simpa using hm)
      have key : ∀ (l : List Oper) (i : Nat) (t : Nat → Value) (h : Nat → Option Blk) (n : Nat) (K1 K2 : (Nat → Value) → (Nat → Option Blk) → Nat → Prop), (∀ t h n, K1 t h n → K2 t h n) → go z ops base i l t h n K1 → go z ops base i l t h n K2 := by
        intro l
        induction l with
        | nil => intro i t h n K1 K2 hk hg; exact hk _ _ _ hg
        | cons o l ih =>
          intro i t h n K1 K2 hk hg
          rw [go_cons] at hg ⊢
          unfold goK at hg ⊢
          split
          · rename_i hw
            rw [hw] at hg
            simp only at hg
            split
            all_goals (rename_i he; rw [he] at hg; first | exact ih _ _ _ _ _ _ hk hg | exact hg)
          · rename_i hw
            rw [hw] at hg
            exact ih _ _ _ _ _ _ hk hg
          · rename_i hw
            rw [hw] at hg
            exact hg
      exact key _ _ _ _ _ _ _ (fun t h n hv => hK' t h n (by rw [show i + 1 + m = i + (m + 1) by omega]; exact hv)) hg

/-- All that is left of the region. -/
theorem run_end {z : Bool} {ops : Array Oper} {base : Nat} {K : St → Prop} {i : Nat} {l : List Oper} {t : Nat → Value} {h : Nat → Option Blk} {n : Nat}
    (H : ∀ K' : (Nat → Value) → (Nat → Option Blk) → Nat → Prop, (∀ t h n, K ⟨t, h, n⟩ → K' t h n) → go z ops base i l t h n K') : vgo ops base i l ⟨t, h, n⟩ K := by
  refine run_n (z := z) l.length (fun K' hK' => ?_) (Nat.le_refl _)
  rw [List.take_length]
  refine H K' fun t h n hk => hK' t h n ?_
  rw [List.drop_length]
  exact hk

/-- A region without a call. -/
theorem vc_go {B N id : Nat} {l : List Oper} {Q : Exit → St → Prop} {t : Nat → Value} {h : Nat → Option Blk} {n : Nat} (hok : l.all (okOp N) = true)
    (hg : ∀ K : (Nat → Value) → (Nat → Option Blk) → Nat → Prop, (∀ t h n, Q .normal ⟨t, h, n⟩ → K t h n) → go false l.toArray n 0 l t h n K) : VC (B := B) N (.region id l.toArray false) Q ⟨t, h, n⟩ :=
  vc_region hok fun _ hK => run_end (z := false) fun K' hK' => hg K' fun t h n hq => hK' t h n (hK _ hq)
/-- Where the names hang on a variable. -/
theorem vc_goS {B N id : Nat} {l : List Oper} {Q : Exit → St → Prop} {t : Nat → Value} {h : Nat → Option Blk} {n : Nat} (hok : l.all (okOp N) = true)
    (hg : ∀ K : (Nat → Value) → (Nat → Option Blk) → Nat → Prop, (∀ t h n, Q .normal ⟨t, h, n⟩ → K t h n) → go true l.toArray n 0 l t h n K) : VC (B := B) N (.region id l.toArray false) Q ⟨t, h, n⟩ :=
  vc_region hok fun _ hK => run_end (z := true) fun K' hK' => hg K' fun t h n hq => hK' t h n (hK _ hq)
/-- A region with calls. -/
theorem vc_reg {B N id : Nat} {l : List Oper} {Q : Exit → St → Prop} {t : Nat → Value} {h : Nat → Option Blk} {n : Nat} (hok : l.all (okOp N) = true)
    (hg : ∀ K : St → Prop, (∀ t h n, Q .normal ⟨t, h, n⟩ → K ⟨t, h, n⟩) → vgo l.toArray n 0 l ⟨t, h, n⟩ K) : VC (B := B) N (.region id l.toArray false) Q ⟨t, h, n⟩ :=
  vc_region hok fun K hK => hg K fun _ _ _ hq => hK _ hq

theorem run_op {ops : Array Oper} {base i : Nat} {o : Oper} {rest : List Oper} {t : Nat → Value} {h : Nat → Option Blk} {n : Nat} {K : St → Prop} {v : Value} (he : vex (evT t) h o.op = some (.val v)) (hw : wantV ops o t = some true)
    (k : vgo ops base (i + 1) rest ⟨putT t o.dst v, h, n⟩ K) : vgo ops base i (o :: rest) ⟨t, h, n⟩ K := by
  refine vgo_step (k := fun t' h' n' => t' = putT t o.dst v ∧ h' = h ∧ n' = n) ?_ ?_
  · unfold goK; rw [hw, he]; exact ⟨rfl, rfl, rfl⟩
  · rintro _ _ _ ⟨rfl, rfl, rfl⟩; exact k
theorem run_rd {ops : Array Oper} {base i : Nat} {o : Oper} {rest : List Oper} {t : Nat → Value} {h : Nat → Option Blk} {n : Nat} {K : St → Prop} {m : Nat} {v : Value} (he : vex (evT t) h o.op = some (.rd m v)) (hw : wantV ops o t = some true)
    (k : vgo ops base (i + 1) rest ⟨putT t o.dst v, h, n⟩ K) : vgo ops base i (o :: rest) ⟨t, h, n⟩ K := by
  refine vgo_step (k := fun t' h' n' => t' = putT t o.dst v ∧ h' = h ∧ n' = n) ?_ ?_
  · unfold goK; rw [hw, he]; exact ⟨rfl, rfl, rfl⟩
  · rintro _ _ _ ⟨rfl, rfl, rfl⟩; exact k
theorem run_set {ops : Array Oper} {base i : Nat} {o : Oper} {rest : List Oper} {t : Nat → Value} {h : Nat → Option Blk} {n : Nat} {K : St → Prop} {m : Nat} {b : Blk} (he : vex (evT t) h o.op = some (.set m b)) (hw : wantV ops o t = some true) (hm : m + 1 ≤ n) (hd : o.dst = none)
    (k : vgo ops base (i + 1) rest ⟨t, upd h m (some b), n⟩ K) : vgo ops base i (o :: rest) ⟨t, h, n⟩ K := by
  refine vgo_step (k := fun t' h' n' => t' = t ∧ h' = upd h m (some b) ∧ n' = n) ?_ ?_
  · unfold goK; rw [hw, he, hd]; exact ⟨rfl, rfl, by omega⟩
  · rintro _ _ _ ⟨rfl, rfl, rfl⟩; exact k
/-- A call of a function of plain values. -/
theorem run_call {ops : Array Oper} {base i : Nat} {o : Oper} {rest : List Oper} {t : Nat → Value} {h : Nat → Option Blk} {n : Nat} {K : St → Prop} {f : Operand} {args : Array Operand} {ats : Array TypeId} {g : FuncId} {v : Value} {vs : List Value}
    (hp : Pure g vs v) (ho : o.op = .call { callee := .value f, args := args, argTypes := ats }) (ha : args.toList.map (evT t) = vs) (hw : wantV ops o t = some true) (hf : evT t f = .func (.func g) #[] #[])
    (k : vgo ops base (i + 1) rest ⟨putT t o.dst v, h, n⟩ K) : vgo ops base i (o :: rest) ⟨t, h, n⟩ K := by
  subst ha
  rw [evT_eq t h n] at hp hf
  have hv : vex (⟨t, h, n⟩ : St).ev h o.op = none := by rw [ho]; rfl
  have hk : kd o.op = .sp := by rw [ho]; rfl
  unfold vgo
  simp only [hw, hv]
  refine ⟨hk, [], _, sp_pure ho hf hp, ⟨v, [], rfl, rfl⟩, ?_⟩
  rintro v' u ⟨rfl, rfl⟩
  rw [app_putT]
  exact k

theorem upd_same' {α : Type} (f : Nat → α) {k : Nat} {v : α} (h : f k = v) : upd f k v = f := by
  funext i
  by_cases e : i = k
  · subst e; rw [upd_same, h]
  · rw [upd_ne _ _ e]
theorem vgo_case {ops : Array Oper} {base i : Nat} {l : List Oper} {t : Nat → Value} {h : Nat → Option Blk} {n : Nat} {K : St → Prop} (d : Nat) {b : Bool} (hd : t d = .bool b)
    (h1 : b = true → vgo ops base i l ⟨upd t d (.bool true), h, n⟩ K) (h2 : b = false → vgo ops base i l ⟨upd t d (.bool false), h, n⟩ K) : vgo ops base i l ⟨t, h, n⟩ K := by
  cases b with
  | true => have := h1 rfl; rwa [upd_same' t hd] at this
  | false => have := h2 rfl; rwa [upd_same' t hd] at this

end Go.Proofs.Ytdfkcijholopoaa.Vm
