/- What the proofs stand on, in one text: Vm8, Vm9, Vm10, Vm11, Vm12, Vm13, Vm14. -/
import Derived.Test.YtdfkcijholopoaaMg1
import Derived.Deep.LoopGhost
namespace Go.Proofs.Ytdfkcijholopoaa.Vm
open Go
set_option linter.unusedSimpArgs false

def Ef.rds : Ef → List Nat
  | .val _ => []
  | .rd m _ => [m]
  | .new _ _ => []
  | .set m _ => [m]
def Ef.out (m : Nat) : Ef → Value × List (Nat × Blk)
  | .val v => (v, [])
  | .rd _ v => (v, [])
  | .new b p => (p m, [(m, b)])
  | .set k b => (undef, [(k, b)])

def updL (h : Nat → Option Blk) : List (Nat × Blk) → Nat → Option Blk
  | [] => h
  | (m, b) :: u => updL (upd h m (some b)) u

def St.put (s : St) (d : Option Nat) (v : Value) : St :=
  match d with
  | some k => { s with t := upd s.t k v }
  | none => s
/-- The first name that is free behind an operation's updates. -/
def bump (n : Nat) : List (Nat × Blk) → Nat
  | [] => n
  | (m, _) :: u => bump (max n (m + 1)) u
def St.app (s : St) (d : Option Nat) (v : Value) (u : List (Nat × Blk)) : St := { s.put d v with h := updL s.h u, n := bump s.n u }
theorem bump_max (u : List (Nat × Blk)) : ∀ n k, bump (max n k) u = max (bump n u) k := by
  induction u with
  | nil => intro n k; rfl
  | cons x u ih =>
    intro n k
    obtain ⟨m, b⟩ := x
    simp only [bump]
    rw [show max (max n k) (m + 1) = max (max n (m + 1)) k by omega, ih]
theorem bump_comm (u u' : List (Nat × Blk)) : ∀ n, bump (bump n u) u' = bump (bump n u') u := by
  induction u with
  | nil => intro n; rfl
  | cons x u ih =>
    intro n
    obtain ⟨m, b⟩ := x
    simp only [bump]
    rw [ih, bump_max]
theorem le_bump (u : List (Nat × Blk)) : ∀ n, n ≤ bump n u := by
  induction u with
  | nil => intro n; exact Nat.le_refl _
  | cons x u ih => intro n; obtain ⟨m, b⟩ := x; simp only [bump]; have := ih (max n (m + 1)); omega
theorem lt_bump {u : List (Nat × Blk)} : ∀ {n : Nat} {x : Nat × Blk}, x ∈ u → x.1 < bump n u := by
  induction u with
  | nil => intro n x h; cases h
  | cons y u ih =>
    intro n x h
    obtain ⟨m, b⟩ := y
    simp only [bump]
    rcases List.mem_cons.1 h with rfl | h
    · have := le_bump u (max n (m + 1)); simp only; omega
    · exact ih h
theorem bump_le {u : List (Nat × Blk)} : ∀ {n k : Nat}, n ≤ k → (∀ x ∈ u, x.1 < k) → bump n u ≤ k := by
  induction u with
  | nil => intro n k h _; exact h
  | cons y u ih =>
    intro n k h hx
    obtain ⟨m, b⟩ := y
    simp only [bump]
    have := hx (m, b) (by simp)
    exact ih (by simp only at this; omega) fun x hx' => hx x (by simp [hx'])

theorem updL_other {u : List (Nat × Blk)} : ∀ {h : Nat → Option Blk} {k : Nat}, (∀ x ∈ u, x.1 ≠ k) → updL h u k = h k := by
  induction u with
  | nil => intro h k _; rfl
  | cons x u ih =>
    intro h k hx
    obtain ⟨m, b⟩ := x
    simp only [updL]
    rw [ih fun y hy => hx y (by simp [hy]), upd_ne _ _ fun e => hx (m, b) (by simp) e.symm]
theorem updL_congr {u : List (Nat × Blk)} : ∀ {h h' : Nat → Option Blk} {k : Nat}, h k = h' k → updL h u k = updL h' u k := by
  induction u with
  | nil => intro h h' k e; exact e
  | cons x u ih =>
    intro h h' k e
    obtain ⟨m, b⟩ := x
    simp only [updL]
    apply ih
    by_cases hk : k = m
    · subst hk; rw [upd_same, upd_same]
    · rw [upd_ne _ _ hk, upd_ne _ _ hk, e]
theorem updL_comm (h : Nat → Option Blk) (u u' : List (Nat × Blk)) (hd : ∀ x ∈ u, ∀ y ∈ u', x.1 ≠ y.1) : updL (updL h u) u' = updL (updL h u') u := by
  funext k
  by_cases hk : ∃ y ∈ u', y.1 = k
  · obtain ⟨y, hy, rfl⟩ := hk
    rw [updL_other (u := u) (h := updL h u') fun x hx => hd x hx y hy]
    exact updL_congr (updL_other fun x hx => hd x hx y hy)
  · rw [updL_other (u := u') (h := updL h u) fun y hy e => hk ⟨y, hy, e⟩]
    exact (updL_congr (updL_other fun y hy e => hk ⟨y, hy, e⟩)).symm

/-- 'vex' looks at nothing but its operands, and the block that it says. -/
theorem vex_local {ev ev' : Operand → Value} {h h' : Nat → Option Blk} {op : Op} {ef : Ef} (he : ∀ x ∈ op.operands, ev' x = ev x) (hh : ∀ m ∈ ef.rds, h' m = h m) (hv : vex ev h op = some ef) : vex ev' h' op = some ef := by
  have pairs : ∀ ps : Array (Nat × Operand), (∀ x ∈ (ps.toList.map (·.2)), ev' x = ev x) → (ps.toList.map fun (i, x) => (i, ev' x)) = (ps.toList.map fun (i, x) => (i, ev x)) := by
    intro ps hp
    apply List.map_congr_left
    intro p hm
    obtain ⟨i, x⟩ := p
    simp only [hp x (List.mem_map.2 ⟨(i, x), hm, rfl⟩)]
  have omap : ∀ q : Option Operand, (∀ x ∈ q.toArray, ev' x = ev x) → q.map ev' = q.map ev := by
    intro q hq
    cases q with
    | none => rfl
    | some x => simp only [Option.map_some, hq x (by simp)]
  cases op
  case call c =>
    simp only [Op.operands] at he
    unfold vex at hv ⊢
    split at hv <;> try (first | (cases hv; done) | contradiction)
    · rename_i x t heq
      cases heq
      rw [he x (by simp [Call.operands])]
      exact hv
    · rename_i x t heq
      cases heq
      rw [he x (by simp [Call.operands])]
      exact hv
    · rename_i x y ts heq
      cases heq
      rw [he x (by simp [Call.operands]), he y (by simp [Call.operands])]
      exact hv
  case lookup t x i ok =>
    simp only [Op.operands] at he
    unfold vex at hv ⊢
    split at hv <;> try (first | (cases hv; done) | contradiction)
    · rename_i x i heq
      cases heq
      rw [he x (by simp), he i (by simp)]
      split at hv
      · rename_i m n hx hi
        split at hv
        · rename_i ob hm
          cases hp : lkm ob n with
          | none => rw [hp] at hv; cases hv
          | some v =>
            rw [hp] at hv
            cases hv
            simp only [Ef.rds, List.mem_singleton, forall_eq] at hh
            simp only [hh, hm, hp, Option.map_some]
        · cases hv
      · cases hv
  all_goals simp only [Op.operands] at he
  all_goals simp only [vex] at hv ⊢
  all_goals try (first | exact hv | (rw [he _ (by simp)]; exact hv) | (rw [he _ (by simp), he _ (by simp)]; exact hv))
  case pick c a b => rw [he c (by simp), he a (by simp), he b (by simp)]; exact hv
  case build t ps => rw [pairs ps fun x hx => he x (by simpa using hx)]; exact hv
  case buildSlice t n ps => rw [pairs ps fun x hx => he x (by simpa using hx)]; exact hv
  case load t x =>
    rw [he x (by simp)]
    split at hv
    · rename_i m k ag z hx ht
      split at hv
      · rename_i c e own hm
        cases hp : partAt ag z.length c k with
        | none => rw [hp] at hv; cases hv
        | some v =>
          rw [hp] at hv
          cases hv
          simp only [Ef.rds, List.mem_singleton, forall_eq] at hh
          simp only [hh, hm, hp, Option.map_some]
      · cases hv
    · cases hv
  case store t x y =>
    rw [he x (by simp), he y (by simp)]
    split at hv
    · rename_i m k ag z hx ht
      split at hv
      · rename_i c e hm
        cases hp : setAt z.length c k (ev y) with
        | none => rw [hp] at hv; cases hv
        | some v =>
          rw [hp] at hv
          cases hv
          simp only [Ef.rds, List.mem_singleton, forall_eq] at hh
          simp only [hh, hm, hp, Option.map_some]
      · cases hv
    · cases hv
  case unOp u t x =>
    cases u <;> simp only [vex] at hv ⊢ <;> first | (rw [he x (by simp)]; exact hv) | exact hv
  case makeFunc fn first captured =>
    have h1 : first.toList.map ev' = first.toList.map ev := List.map_congr_left fun x hx => he x (by simp at hx; simp [hx])
    have h2 : captured.toList.map ev' = captured.toList.map ev := List.map_congr_left fun x hx => he x (by simp at hx; simp [hx])
    rw [h1, h2]; exact hv
  case slice t x lo hi mx =>
    rw [he x (by simp), omap lo fun y hy => he y (by simp [hy]), omap hi fun y hy => he y (by simp [hy]), omap mx fun y hy => he y (by simp [hy])]
    exact hv
/-- AN OPERATION, WHATEVER KIND: in each virtual state that agrees on its operands and on the blocks 'rd', it yields one of the values and updates of 'Out'; 'm': the one name that it may take. -/
def SpOk (o : Oper) (m : Nat) (ev : Operand → Value) (h : Nat → Option Blk) (rd : List Nat) (Out : Value → List (Nat × Blk) → Prop) : Prop :=
  ∀ (M : Nat → Prop) (ρ : Nat → Option (Nat × Nat)) (h' : Nat → Option Blk) (w : World) (a : Act), (∀ k ∈ rd, h' k = h k) → (∀ x ∈ o.op.operands, Rel ρ (ev x) (a.eval x)) → RH M ρ h' w → ρ m = none →
    o.wp P a w (fun a' w' => ∃ v v' u ρ', Out v u ∧ a' = a.put o.dst v' ∧ Ext ρ ρ' ∧ Rel ρ' v v' ∧ RH M ρ' (updL h' u) w' ∧ Kept M w w' ∧ (∀ x ∈ u, x.1 = m ∨ ρ x.1 ≠ none) ∧ ∀ k, ρ k = none → k ∉ u.map (·.1) → ρ' k = none) (fun _ _ _ => False)

theorem RH.lt {M : Nat → Prop} {ρ : Nat → Option (Nat × Nat)} {h : Nat → Option Blk} {w : World} (hH : RH M ρ h w) {m : Nat} {b : Blk} (hm : h m = some b) {r o : Nat} (hr : ρ m = some (r, o)) : r < w.heap.size := by
  obtain ⟨r', o', h1, h2, _⟩ := hH.blk m b hm
  rw [hr] at h1
  cases h1
  have : ∃ x, w.heap[r]? = some x := by
    cases b with
    | cells c t own =>
      cases own with
      | true => obtain ⟨c', h3, _⟩ := h2; exact ⟨_, h3⟩
      | false => obtain ⟨c', t', fz, h3, _⟩ := h2; exact ⟨_, h3⟩
    | obj ob => exact ⟨_, h2.1⟩
  obtain ⟨x, hx⟩ := this
  exact (Array.getElem?_eq_some_iff.1 hx).1

theorem RH.alloc {M : Nat → Prop} {ρ : Nat → Option (Nat × Nat)} {h : Nat → Option Blk} {w : World} (hH : RH M ρ h w) {m : Nat} (hm : ρ m = none) {b : Blk} {ob : Obj} (hb : RObj (upd ρ m (some (w.heap.size, 0))) b 0 (some ob)) :
    RH M (upd ρ m (some (w.heap.size, 0))) (upd h m (some b)) (w.alloc ob) := by
  have hx := Ext.upd hm (some (w.heap.size, 0))
  have hg : ∀ r, r < w.heap.size → (w.alloc ob).heap[r]? = w.heap[r]? := fun r hr => by
    show (w.heap.push ob)[r]? = _
    rw [Array.getElem?_push, if_neg (by omega)]
  have hn : (w.alloc ob).heap[w.heap.size]? = some ob := by
    show (w.heap.push ob)[w.heap.size]? = _
    simp
  refine ⟨fun k c hk => ?_, fun k k' c c' r o r' o' hk hk' hne hown h1 h2 => ?_, fun r hr => hH.new r (by rw [World.size_alloc] at hr; omega)⟩
  · by_cases e : k = m
    · subst e
      rw [upd_same] at hk
      cases hk
      exact ⟨w.heap.size, 0, upd_same _ _ _, by rw [hn]; exact hb, fun _ => hH.new _ (Nat.le_refl _)⟩
    · rw [upd_ne _ _ e] at hk
      obtain ⟨r, o, h1, h2, h3⟩ := hH.blk k c hk
      exact ⟨r, o, hx _ _ h1, by rw [hg r (hH.lt hk h1)]; exact h2.ext hx, h3⟩
  · by_cases e : k = m
    · subst e
      rw [upd_same] at h1
      cases h1
      rw [upd_ne _ _ (Ne.symm hne)] at hk' h2
      have := hH.lt hk' h2
      omega
    · rw [upd_ne _ _ e] at hk h1
      by_cases e' : k' = m
      · subst e'
        rw [upd_same] at h2
        cases h2
        have := hH.lt hk h1
        omega
      · rw [upd_ne _ _ e'] at hk' h2
        exact hH.inj k k' c c' r o r' o' hk hk' hne hown h1 h2

theorem Kept.alloc {M : Nat → Prop} {w : World} (hn : ∀ r, w.heap.size ≤ r → M r) (ob : Obj) : Kept M w (w.alloc ob) :=
  ⟨rfl, rfl, rfl, by simp, fun r hr => by
    show (w.heap.push ob)[r]? = _
    rw [Array.getElem?_push, if_neg fun e => hr (hn r (by omega))]⟩

theorem Kept.setRow {M : Nat → Prop} {w : World} {r : Nat} (hr : M r) (c : Array Value) : Kept M w (w.setRow r c) :=
  ⟨rfl, rfl, rfl, by simp [World.setRow], fun k hk => setRow_other w r k c fun e => hk (e ▸ hr)⟩

theorem RH.setRow {M : Nat → Prop} {ρ : Nat → Option (Nat × Nat)} {h : Nat → Option Blk} {w : World} (hH : RH M ρ h w) {m r : Nat} {b b0 : Blk} (hm : h m = some b0) (h0 : b0.own = true) (hr : ρ m = some (r, 0)) {c : Array Value}
    (hrow : RObj ρ b 0 (w.setRow r c).heap[r]?) : RH M ρ (upd h m (some b)) (w.setRow r c) := by
  have hM : M r := by
    obtain ⟨r', o', h1, _, h3⟩ := hH.blk m b0 hm
    rw [hr] at h1; cases h1
    exact h3 h0
  refine ⟨fun k d hk => ?_, fun k k' d d' r1 o1 r2 o2 hk hk' hne hown h1 h2 => ?_, fun q hq => hH.new q (by simpa [World.setRow] using hq)⟩
  · by_cases e : k = m
    · subst e
      rw [upd_same] at hk
      cases hk
      exact ⟨r, 0, hr, hrow, fun _ => hM⟩
    · rw [upd_ne _ _ e] at hk
      obtain ⟨r', o', h1, h2, h3⟩ := hH.blk k d hk
      have hne : r' ≠ r := fun e' => hH.inj m k b0 d r 0 r' o' hm hk (Ne.symm e) h0 hr h1 e'.symm
      exact ⟨r', o', h1, by rw [setRow_other w r r' c hne]; exact h2, h3⟩
  · by_cases e : k = m
    · subst e
      rw [hr] at h1
      cases h1
      rw [upd_ne _ _ (Ne.symm hne)] at hk'
      exact hH.inj k k' b0 d' r 0 r2 o2 hm hk' hne h0 hr h2
    · rw [upd_ne _ _ e] at hk
      by_cases e' : k' = m
      · subst e'
        rw [hr] at h2
        cases h2
        exact fun e2 => hH.inj k' k b0 d r 0 r1 o1 hm hk (Ne.symm hne) h0 hr h1 e2.symm
      · rw [upd_ne _ _ e'] at hk'
        exact hH.inj k k' d d' r1 o1 r2 o2 hk hk' hne hown h1 h2

/-- A core operation is one. -/
theorem sp_of_vex {o : Oper} {m : Nat} {ev : Operand → Value} {h : Nat → Option Blk} {ef : Ef} (hv : vex ev h o.op = some ef) :
    SpOk o m ev h ef.rds (fun v u => v = (ef.out m).1 ∧ u = (ef.out m).2) := by
  intro M ρ h' w a hh hev hH hm
  have hv' : vex ev h' o.op = some ef := vex_local (fun _ _ => rfl) hh hv
  have hs := vex_sound (M := M) (ρ := ρ) (h := h') (w := w) (a := a) (ev := ev) hev hH hv'
  cases ef with
  | val v =>
    obtain ⟨v', h1, h2⟩ := hs
    unfold Oper.wp
    rw [h1]
    exact ⟨v, v', [], ρ, ⟨rfl, rfl⟩, rfl, Ext.refl _, h2, hH, Kept.refl _ _, fun x hx => (by cases hx), fun k hk _ => hk⟩
  | rd k v =>
    obtain ⟨v', h1, h2⟩ := hs
    unfold Oper.wp
    rw [h1]
    exact ⟨v, v', [], ρ, ⟨rfl, rfl⟩, rfl, Ext.refl _, h2, hH, Kept.refl _ _, fun x hx => (by cases hx), fun k hk _ => hk⟩
  | new b p =>
    obtain ⟨_, v', ob, h1, h2⟩ := hs
    unfold Oper.wp
    rw [h1]
    obtain ⟨h3, h4⟩ := h2 (upd ρ m (some (w.heap.size, 0))) m (Ext.upd hm _) (upd_same _ _ _)
    exact ⟨p m, v', [(m, b)], _, ⟨rfl, rfl⟩, rfl, Ext.upd hm _, h3, hH.alloc hm h4, Kept.alloc hH.new ob, fun x hx => (by simp at hx; exact .inl (by rw [hx])), fun k hk hne => by rw [upd_ne _ _ (by simpa using hne)]; exact hk⟩
  | set k b =>
    obtain ⟨_, ⟨b0, h2, h3⟩, r, c', h4, h5, _, h7, h8⟩ := hs
    unfold Oper.wp
    rw [h7]
    exact ⟨undef, undef, [(k, b)], ρ, ⟨rfl, rfl⟩, rfl, Ext.refl _, .plain rfl, hH.setRow h2 h3 h4 h8, Kept.setRow h5 c', fun x hx => (by simp at hx; exact .inr (by rw [hx, h4]; simp)), fun k hk _ => hk⟩

theorem SpOk.local {o : Oper} {m : Nat} {ev ev' : Operand → Value} {h h' : Nat → Option Blk} {rd : List Nat} {Out : Value → List (Nat × Blk) → Prop} (hs : SpOk o m ev h rd Out)
    (he : ∀ x ∈ o.op.operands, ev' x = ev x) (hh : ∀ k ∈ rd, h' k = h k) : SpOk o m ev' h' rd Out :=
  fun M ρ h2 w a hk hev hH hm => hs M ρ h2 w a (fun k hkr => (hk k hkr).trans (hh k hkr)) (fun x hx => he x hx ▸ hev x hx) hH hm

end Go.Proofs.Ytdfkcijholopoaa.Vm
namespace Go.Proofs.Ytdfkcijholopoaa.Vm
open Go
set_option linter.unusedSimpArgs false

def okX : Operand → Bool
  | .const v => plain v
  | .global _ => false
  | _ => true
def okOp (N : Nat) (o : Oper) : Bool := o.op.operands.toList.all okX && (match o.dst with | some d => decide (d < N) | none => true)

def jx (t : Nat → Value) : Operand → Bool
  | .tmp k => isJ (t k)
  | _ => false
def jsl (t : Nat → Value) : List Operand → Bool
  | [] => false
  | x :: l => match jx t x with
    | true => true
    | false => jsl t l
/-- Does it look at a slot of which nothing is known? -/
def opJ (t : Nat → Value) (op : Op) : Bool :=
  match op with
  | .move x => jx t x
  | .assign x => jx t x
  | .load _ x => jx t x
  | .fieldAddr _ x _ => jx t x
  | .extract x _ => jx t x
  | .box _ x => jx t x
  | .nilCheck x => jx t x
  | .unOp _ _ x => jx t x
  | .convert _ _ x => jx t x
  | .alloc _ => false
  | .binOp _ _ a b _ => jsl t [a, b]
  | .store _ a b => jsl t [a, b]
  | .indexAddr _ a b => jsl t [a, b]
  | .index _ a b => jsl t [a, b]
  | .pick a b c => jsl t [a, b, c]
  | .call { callee := .value f, args := ⟨l⟩, argTypes := _ } => jsl t (f :: l)
  | .call { callee := .builtin _, args := ⟨l⟩, argTypes := _ } => jsl t l
  | op => jsl t op.operands.toList
theorem jsl_append (t : Nat → Value) (a b : List Operand) : jsl t (a ++ b) = (jsl t a || jsl t b) := by
  induction a with
  | nil => rfl
  | cons x a ih =>
    simp only [List.cons_append, jsl]
    cases jx t x
    · exact ih
    · rfl
theorem jsl_one (t : Nat → Value) (x : Operand) : jsl t [x] = jx t x := by
  simp only [jsl]
  cases jx t x <;> rfl
theorem opJ_eq (t : Nat → Value) (op : Op) : opJ t op = jsl t op.operands.toList := by
  unfold opJ
  split <;> simp only [Op.operands, Call.operands, jsl_one, Array.toList_append, jsl_append, List.nil_append] <;> first | rfl | (simp [jsl])
theorem jsl_false {t : Nat → Value} {l : List Operand} (h : jsl t l = false) {k : Nat} (hk : Operand.tmp k ∈ l) : isJ (t k) = false := by
  induction l with
  | nil => cases hk
  | cons x l ih =>
    unfold jsl at h
    cases hx : jx t x with
    | true => rw [hx] at h; cases h
    | false =>
      rw [hx] at h
      rcases List.mem_cons.1 hk with rfl | hk
      · exact hx
      · exact ih h hk
theorem opJ_false {t : Nat → Value} {op : Op} (h : opJ t op = false) {k : Nat} (hk : Operand.tmp k ∈ op.operands) : isJ (t k) = false := by
  rw [opJ_eq] at h
  exact jsl_false h (by simpa using hk)
theorem jsl_local {t t' : Nat → Value} {l : List Operand} (h : ∀ k, Operand.tmp k ∈ l → t' k = t k) : jsl t' l = jsl t l := by
  induction l with
  | nil => rfl
  | cons x l ih =>
    unfold jsl
    have hx : jx t' x = jx t x := by
      cases x with
      | tmp k => simp only [jx, h k (by simp)]
      | _ => rfl
    rw [hx, ih fun k hk => h k (by simp [hk])]
theorem opJ_local {t t' : Nat → Value} {op : Op} (h : ∀ k, Operand.tmp k ∈ op.operands → t' k = t k) : opJ t' op = opJ t op := by
  rw [opJ_eq, opJ_eq]
  exact jsl_local fun k hk => h k (by simpa using hk)

theorem RR.ev {M : Nat → Prop} {w0 : World} {N : Nat} {fr : Nat → Prop} {ρ : Nat → Option (Nat × Nat)} {s : St} {a : Act} {w : World} (hr : RR M w0 N fr ρ s a w) {o : Oper} (hok : okOp N o = true) (hj : opJ s.t o.op = false) : ∀ x ∈ o.op.operands, Rel ρ (s.ev x) (a.eval x) := by
  intro x hx
  simp only [okOp, Bool.and_eq_true, List.all_eq_true] at hok
  have h1 := hok.1 x (by simpa using hx)
  cases x with
  | tmp k => exact hr.tmp k (opJ_false hj hx)
  | const v => exact .plain h1
  | global g => cases h1
  | func f => exact .plain rfl

theorem RR.mono {M : Nat → Prop} {w0 : World} {N : Nat} {fr fr' : Nat → Prop} {ρ : Nat → Option (Nat × Nat)} {s : St} {a : Act} {w : World} (hr : RR M w0 N fr ρ s a w) (h : ∀ m, fr' m → fr m) : RR M w0 N fr' ρ s a w :=
  ⟨hr.size, hr.defers, hr.tmp, hr.heap, fun m hm => hr.fresh m (h m hm), hr.kept⟩

theorem RR.put {M : Nat → Prop} {w0 : World} {N : Nat} {fr fr' : Nat → Prop} {ρ ρ' : Nat → Option (Nat × Nat)} {s : St} {a : Act} {w w' : World} (hr : RR M w0 N fr ρ s a w) {o : Oper} (hok : okOp N o = true) {v v' : Value} {u : List (Nat × Blk)}
    (he : Ext ρ ρ') (hv : Rel ρ' v v') (hH : RH M ρ' (updL s.h u) w') (hk : Kept M w w') (hf : ∀ k, fr' k → ρ' k = none) : RR M w0 N fr' ρ' (s.app o.dst v u) (a.put o.dst v') w' := by
  simp only [okOp, Bool.and_eq_true] at hok
  have hd := hok.2
  refine ⟨?_, ?_, ?_, hH, hf, hr.kept.trans hk⟩
  · cases o.dst <;> simp [Act.put, hr.size]
  · cases o.dst <;> simp [Act.put, hr.defers]
  · intro k
    cases hdst : o.dst with
    | none => exact fun hj => (hr.tmp k hj).ext he
    | some d =>
      rw [hdst] at hd
      have hlt : d < a.tmps.size := by rw [hr.size]; simpa using hd
      show isJ (upd s.t d v k) = false → Rel ρ' (upd s.t d v k) ((a.tmps.setIfInBounds d v').getD k undef)
      intro hj
      by_cases e : k = d
      · subst e
        rw [upd_same]
        simpa [hlt] using hv
      · rw [upd_ne _ _ e] at hj ⊢
        simpa [Array.getElem?_setIfInBounds_ne (Ne.symm e)] using (hr.tmp k hj).ext he

theorem wp_monoQ {P : Program} {o : Oper} {a : Act} {w : World} {K K' : Act → World → Prop} {Q Q' : Exit → Act → World → Prop} (h : ∀ a w, K a w → K' a w) (hq : ∀ e a w, Q e a w → Q' e a w) (hh : o.wp P a w K Q) : o.wp P a w K' Q' := by
  unfold Oper.wp at *
  generalize (execOp a.eval o).run P w = r at *
  cases r with
  | ok n w' =>
    cases n <;> simp only [Oper.upon] at hh ⊢ <;>
      first
        | exact h _ _ hh
        | exact Calls.mono hh (fun e w'' he => by cases e with
            | returned v => exact h _ _ he
            | panicked c => exact hq _ _ _ he
            | outgrown => obtain ⟨a, w, x⟩ := he; exact ⟨a, w, hq _ _ _ x⟩)
        | exact Rows.mono hh (fun _ _ he => h _ _ he)
  | halt x w' => cases x <;> simp only [Oper.upon] at hh ⊢ <;> first | exact hq _ _ _ hh | exact hh

theorem sp_step {M : Nat → Prop} {w0 : World} {N : Nat} {fr : Nat → Prop} {ρ : Nat → Option (Nat × Nat)} {s : St} {a : Act} {w : World} {o : Oper} {m : Nat} {rd : List Nat} {Out : Value → List (Nat × Blk) → Prop} {Q : Exit → Act → World → Prop}
    (hs : SpOk o m s.ev s.h rd Out) (hr : RR M w0 N fr ρ s a w) (hm : fr m) (hok : okOp N o = true) (hj : opJ s.t o.op = false) :
    o.wp P a w (fun a' w' => ∃ v u ρ', Out v u ∧ Ext ρ ρ' ∧ (∀ x ∈ u, x.1 = m ∨ ¬ fr x.1) ∧ RR M w0 N (fun k => fr k ∧ k ∉ u.map (·.1)) ρ' (s.app o.dst v u) a' w') Q := by
  refine wp_monoQ ?_ (fun _ _ _ h => h.elim) (hs M ρ s.h w a (fun _ _ => rfl) (hr.ev hok hj) hr.heap (hr.fresh m hm))
  rintro a' w' ⟨v, v', u, ρ', h1, rfl, h3, h4, h5, h6, h7, h8⟩
  exact ⟨v, u, ρ', h1, h3, fun x hx => (h7 x hx).imp id fun hne hf => hne (hr.fresh _ hf), hr.put hok h3 h4 h5 h6 fun k hk => h8 k (hr.fresh k hk.1) hk.2⟩

/-- Is it carried out? (none: that hangs on what is not known, or it would look at such a thing.) -/
def wantV (ops : Array Oper) (o : Oper) (t : Nat → Value) : Option Bool :=
  match o.guard with
  | none => match opJ t o.op with
    | true => none
    | false => some true
  | some (j, want) => match (ops[j]?).bind (·.dst) with
    | none => some false
    | some d => match t d with
      | .bool b => match b == want with
        | true => match opJ t o.op with
          | true => none
          | false => some true
        | false => some false
      | .chan (some _) => none
      | _ => some false

theorem wanted_eq {M : Nat → Prop} {w0 : World} {N : Nat} {fr : Nat → Prop} {ρ : Nat → Option (Nat × Nat)} {s : St} {a : Act} {w : World} (hr : RR M w0 N fr ρ s a w) {ops : Array Oper} {o : Oper} {b : Bool} (h : wantV ops o s.t = some b) :
    Region.wanted o (yielded ops a.tmps) = b ∧ (b = true → opJ s.t o.op = false) := by
  unfold wantV at h
  unfold Region.wanted
  cases hg : o.guard with
  | none =>
    rw [hg] at h
    simp only at h ⊢
    split at h
    · cases h
    · rename_i hj; cases h; exact ⟨rfl, fun _ => hj⟩
  | some g =>
    obtain ⟨j, want⟩ := g
    rw [hg] at h
    simp only at h ⊢
    unfold yielded
    cases hd : (ops[j]?).bind (·.dst) with
    | none =>
      rw [hd] at h
      cases h
      exact ⟨rfl, fun h => by cases h⟩
    | some d =>
      rw [hd] at h
      simp only [Option.bind_some] at h ⊢
      have hrel := hr.tmp d
      have hget : ∀ x, a.tmps[d]? = some x → a.tmps.getD d undef = x := fun x hx => by simp [hx]
      have hget' : a.tmps[d]? = none → a.tmps.getD d undef = undef := fun hx => by simp [hx]
      split at h
      · rename_i b' ht
        rw [ht] at hrel
        have h1 := (hrel rfl).bool_inv
        have h2 : a.tmps[d]? = some (.bool b') := by
          cases hx : a.tmps[d]? with
          | none => rw [hget' hx] at h1; cases h1
          | some x => rw [hget x hx] at h1; rw [h1]
        rw [h2]
        simp only
        split at h
        · rename_i hb
          split at h
          · cases h
          · rename_i hj
            cases h
            have hb' : b' = want := by simpa using hb
            exact ⟨by rw [hb']; simp, fun _ => hj⟩
        · rename_i hb
          cases h
          have hb' : b' ≠ want := by simpa using hb
          exact ⟨by simp [hb'], fun h => by cases h⟩
      · cases h
      · rename_i hne1 hne2
        cases h
        refine ⟨?_, fun h => by cases h⟩
        have hj : isJ (s.t d) = false := by
          cases hv : s.t d <;> first | rfl | skip
          rename_i r
          cases r with
          | none => rfl
          | some r => exact absurd hv (hne2 r)
        have h1 := hrel hj
        have h2 : ∀ b, a.tmps[d]? ≠ some (.bool b) := by
          intro b hx
          rw [hget _ hx] at h1
          have : s.t d = .bool b := by
            generalize s.t d = v at h1
            cases h1; rfl
          exact hne1 b this
        cases hx : a.tmps[d]? with
        | none => rfl
        | some x =>
          cases x <;> first | rfl | exact absurd hx (h2 _)

/-- What a core operation, or one that its guard leaves out, does: the blocks read, the value, the updates. -/
def cst (ops : Array Oper) (base i : Nat) (o : Oper) (s : St) : Option (List Nat × Value × List (Nat × Blk)) :=
  match wantV ops o s.t with
  | some true => (vex s.ev s.h o.op).map fun ef => (ef.rds, (ef.out (base + i)).1, (ef.out (base + i)).2)
  | some false => some ([], undef, [])
  | none => none

inductive Kd where
  | silent | rd | new | set | sp
  deriving DecidableEq

def kd : Op → Kd
  | .load .. => .rd
  | .lookup .. => .rd
  | .store .. => .set
  | .alloc _ => .new
  | .box .. => .new
  | .buildSlice .. => .new
  | .move _ => .silent
  | .assign _ => .silent
  | .pick .. => .silent
  | .build .. => .silent
  | .nilCheck _ => .silent
  | .binOp _ 9 _ _ _ => .sp
  | .binOp .. => .silent
  | .unOp .. => .silent
  | .convert _ 9 _ => .sp
  | .convert .. => .silent
  | .makeFunc .. => .silent
  | .fieldAddr .. => .silent
  | .indexAddr .. => .silent
  | .index 9 _ _ => .sp
  | .index .. => .silent
  | .slice .. => .silent
  | .extract .. => .silent
  | .call { callee := .builtin .len, argTypes := ⟨[9]⟩, .. } => .sp
  | .call { callee := .builtin .len, .. } => .silent
  | .call { callee := .builtin .cap, .. } => .silent
  | .call { callee := .builtin .min, .. } => .silent
  | _ => .sp

/-- Unordered pairs of U: what the earlier one made or wrote the later one does not read or write, nor the other way round. -/
def chk (U : List (Nat × Nat)) (log : List (Nat × List Nat × List Nat)) (i : Nat) (rd wr : List Nat) : Prop :=
  ∀ e ∈ log, (e.1, i) ∈ U → (∀ m ∈ e.2.2, m ∉ rd ∧ m ∉ wr) ∧ (∀ m ∈ e.2.1, m ∉ wr)

/-- THE REGION's RUN IN THE ORDER OF THE TEXT. -/
def vlex (ops : Array Oper) (U : List (Nat × Nat)) (base : Nat) : List (Nat × Oper) → List (Nat × List Nat × List Nat) → St → (St → Prop) → Prop
  | [], _, s, K => K s
  | (i, o) :: rest, log, s, K =>
    (∃ rd v u, cst ops base i o s = some (rd, v, u) ∧ chk U log i rd (u.map (·.1)) ∧ vlex ops U base rest ((i, rd, u.map (·.1)) :: log) (s.app o.dst v u) K) ∨
    (kd o.op = .sp ∧ wantV ops o s.t = some true ∧ ∃ rd Out, SpOk o (base + i) s.ev s.h rd Out ∧ (∃ v u, Out v u) ∧
      ∀ v u, Out v u → chk U log i rd (u.map (·.1)) ∧ vlex ops U base rest ((i, rd, u.map (·.1)) :: log) (s.app o.dst v u) K)

theorem vlex_log {ops : Array Oper} {U : List (Nat × Nat)} {base : Nat} {K : St → Prop} : ∀ {rem : List (Nat × Oper)} {log log' : List (Nat × List Nat × List Nat)} {s : St}, (∀ e ∈ log', e ∈ log) → vlex ops U base rem log s K → vlex ops U base rem log' s K
  | [], _, _, _, _, h => h
  | (i, o) :: rest, log, log', s, hl, h => by
    have hc : ∀ {rd wr}, chk U log i rd wr → chk U log' i rd wr := fun h e he => h e (hl e he)
    have hl' : ∀ x, ∀ e ∈ x :: log', e ∈ x :: log := fun x e he => by
      rcases List.mem_cons.1 he with rfl | he
      · exact List.mem_cons_self
      · exact List.mem_cons_of_mem _ (hl e he)
    rcases h with ⟨rd, v, u, h1, h2, h3⟩ | ⟨h0, h1, rd, Out, h2, h3, h4⟩
    · exact .inl ⟨rd, v, u, h1, hc h2, vlex_log (hl' _) h3⟩
    · exact .inr ⟨h0, h1, rd, Out, h2, h3, fun v u hu => ⟨hc (h4 v u hu).1, vlex_log (hl' _) (h4 v u hu).2⟩⟩

def idx : Nat → List Oper → List (Nat × Oper)
  | _, [] => []
  | k, o :: l => (k, o) :: idx (k + 1) l

theorem St.app_undef (s : St) (d : Option Nat) : s.app d undef [] = s.put d undef := by
  cases d <;> rfl

/-- The next operation, and what must hold of the state behind it. -/
def Dis (ops : Array Oper) (base i : Nat) (o : Oper) (s : St) (V : St → Prop) : Prop :=
  (∃ rd v u, cst ops base i o s = some (rd, v, u) ∧ V (s.app o.dst v u)) ∨
  (wantV ops o s.t = some true ∧ ∃ rd Out, SpOk o (base + i) s.ev s.h rd Out ∧ ∀ v u, Out v u → V (s.app o.dst v u))

theorem dis_step {M : Nat → Prop} {w0 : World} {N : Nat} {fr : Nat → Prop} {ρ : Nat → Option (Nat × Nat)} {s : St} {a : Act} {w : World} {ops : Array Oper} {base i : Nat} {o : Oper} {V : St → Prop}
    {K' : Act → World → Prop} {Q : Exit → Act → World → Prop}
    (hv : Dis ops base i o s V) (hr : RR M w0 N fr ρ s a w) (hm : fr (base + i)) (hok : okOp N o = true)
    (hK : ∀ ρ' v u a' w', Ext ρ ρ' → (∀ x ∈ u, x.1 = base + i ∨ ¬ fr x.1) → RR M w0 N (fun k => fr k ∧ k ∉ u.map (·.1)) ρ' (s.app o.dst v u) a' w' → V (s.app o.dst v u) → K' a' w') :
    if Region.wanted o (yielded ops a.tmps) then o.wp P a w K' Q ∨ (o.asks P a w ∧ LetsOut Q) else K' (a.put o.dst undef) w := by
  rcases hv with ⟨rd, v, u, h1, h3⟩ | ⟨hw, rd, Out, h1, h3⟩
  · unfold cst at h1
    cases hw : wantV ops o s.t with
    | none => rw [hw] at h1; cases h1
    | some b =>
      obtain ⟨hwe, hj⟩ := wanted_eq hr hw
      rw [hwe]
      rw [hw] at h1
      cases b with
      | true =>
        simp only at h1
        rw [if_pos rfl]
        left
        cases he : vex s.ev s.h o.op with
        | none => rw [he] at h1; cases h1
        | some ef =>
          rw [he] at h1
          cases h1
          refine Oper.wp_mono ?_ (sp_step (Q := Q) (sp_of_vex (m := base + i) he) hr hm hok (hj rfl))
          rintro a' w' ⟨v, u, ρ', ⟨rfl, rfl⟩, h5, h6, h7⟩
          exact hK ρ' _ _ a' w' h5 h6 h7 h3
      | false =>
        simp only at h1
        cases h1
        rw [if_neg (by simp)]
        refine hK ρ undef [] _ w (Ext.refl _) (fun x hx => by cases hx) ?_ h3
        exact hr.put hok (Ext.refl _) (.plain rfl) hr.heap (Kept.refl _ _) fun k hk => hr.fresh k hk.1
  · obtain ⟨hwe, hj⟩ := wanted_eq hr hw
    rw [hwe, if_pos rfl]
    left
    refine Oper.wp_mono ?_ (sp_step (Q := Q) h1 hr hm hok (hj rfl))
    rintro a' w' ⟨v, u, ρ', h4, h5, h6, h7⟩
    exact hK ρ' v u a' w' h5 h6 h7 (h3 v u h4)

/-- A region that keeps the text's order. -/
theorem vlex_list {M : Nat → Prop} {w0 : World} {N : Nat} {ops : Array Oper} {U : List (Nat × Nat)} {base : Nat} {K : St → Prop} {Q : Exit → Act → World → Prop} : ∀ (l : List Oper) (i : Nat) (log : List (Nat × List Nat × List Nat)) (ρ : Nat → Option (Nat × Nat)) (s : St) (a : Act) (w : World),
    vlex ops U base (idx i l) log s K → s.n ≤ base + i → RR M w0 N (fun m => s.n ≤ m) ρ s a w → (l.all (okOp N)) = true →
    (∀ ρ' s' a' w', Ext ρ ρ' → RR M w0 N (fun m => s'.n ≤ m) ρ' s' a' w' → K s' → Q .normal a' w') → wpList P ops Q l a w
  | [], i, log, ρ, s, a, w, hv, _, hr, _, hQ => hQ ρ s a w (Ext.refl _) hr hv
  | o :: l, i, log, ρ, s, a, w, hv, hn, hr, hok, hQ => by
    simp only [List.all_cons, Bool.and_eq_true] at hok
    have hd : Dis ops base i o s (fun s' => vlex ops U base (idx (i + 1) l) [] s' K) := by
      rcases hv with ⟨rd, v, u, h1, _, h3⟩ | ⟨_, hw, rd, Out, h1, _, h3⟩
      · exact .inl ⟨rd, v, u, h1, vlex_log (fun e he => by cases he) h3⟩
      · exact .inr ⟨hw, rd, Out, h1, fun v u hu => vlex_log (fun e he => by cases he) (h3 v u hu).2⟩
    unfold wpList
    refine dis_step (Q := Q) hd hr hn hok.1 ?_
    intro ρ' v u a' w' he hu hr' hv'
    have hlt : ∀ x ∈ u, x.1 < base + (i + 1) := fun x hx => by
      rcases hu x hx with h | h
      · omega
      · simp only [Nat.not_le] at h; omega
    refine vlex_list l (i + 1) [] ρ' (s.app o.dst v u) a' w' hv' (bump_le (by omega) hlt) (hr'.mono fun m hm => ⟨?_, ?_⟩) hok.2 ?_
    · have := le_bump u s.n
      have hm' : bump s.n u ≤ m := hm
      omega
    · intro hmem
      obtain ⟨x, hx, rfl⟩ := List.mem_map.1 hmem
      have hm' : bump s.n u ≤ x.1 := hm
      have := lt_bump (n := s.n) hx
      omega
    · intro ρ2 s2 a2 w2 he2 hr2 hk
      exact hQ ρ2 s2 a2 w2 (he.trans he2) hr2 hk

end Go.Proofs.Ytdfkcijholopoaa.Vm
namespace Go.Proofs.Ytdfkcijholopoaa.Vm
open Go
set_option linter.unusedSimpArgs false

theorem silent_val {ev : Operand → Value} {h : Nat → Option Blk} {op : Op} {ef : Ef} (hk : kd op = .silent) (hv : vex ev h op = some ef) : ∃ v, ef = .val v := by
  have om : ∀ {α : Type} {x : Option α} {f : α → Value}, x.map (fun a => Ef.val (f a)) = some ef → ∃ v, ef = .val v := by
    intro α x f h
    cases x with
    | none => cases h
    | some a => cases h; exact ⟨_, rfl⟩
  have om' : ∀ {x : Option Value}, x.map Ef.val = some ef → ∃ v, ef = .val v := by
    intro x h
    cases x with
    | none => cases h
    | some a => cases h; exact ⟨_, rfl⟩
  unfold vex at hv
  split at hv <;> try (simp only [kd] at hk; cases hk; done)
  all_goals try (first | (cases hv; done) | (cases hv; exact ⟨_, rfl⟩))
  all_goals try (exact om' hv)
  all_goals (split at hv <;> try (first | (cases hv; done) | (cases hv; exact ⟨_, rfl⟩) | exact om hv | exact om' hv))
  all_goals (split at hv <;> try (first | (cases hv; done) | (cases hv; exact ⟨_, rfl⟩) | exact om hv | exact om' hv))
  all_goals (split at hv <;> try (first | (cases hv; done) | (cases hv; exact ⟨_, rfl⟩) | exact om hv | exact om' hv))

theorem kd_rd {op : Op} (hk : kd op = .rd) : (∃ t x, op = .load t x) ∨ ∃ t x i ok, op = .lookup t x i ok := by
  unfold kd at hk
  split at hk <;> first | (cases hk; done) | exact .inl ⟨_, _, rfl⟩ | exact .inr ⟨_, _, _, _, rfl⟩
theorem rd_noWrite {ev : Operand → Value} {h : Nat → Option Blk} {op : Op} {ef : Ef} (hk : kd op = .rd) (hv : vex ev h op = some ef) : ∃ m v, ef = .rd m v := by
  rcases kd_rd hk with ⟨t, x, rfl⟩ | ⟨t, x, i, ok, rfl⟩
  · simp only [vex] at hv
    split at hv
    · split at hv
      · rename_i m k ag z _ _ _ c _ _ _
        cases hp : partAt ag z.length c k with
        | none => rw [hp] at hv; cases hv
        | some v => rw [hp] at hv; cases hv; exact ⟨_, _, rfl⟩
      · cases hv
    · cases hv
  · unfold vex at hv
    split at hv <;> try (first | contradiction | (cases hv; done))
    split at hv
    · split at hv
      · obtain ⟨v, _, rfl⟩ := Option.map_eq_some_iff.1 hv
        exact ⟨_, _, rfl⟩
      · cases hv
    · cases hv

theorem cst_kd {ops : Array Oper} {base i : Nat} {o : Oper} {s : St} {rd : List Nat} {v : Value} {u : List (Nat × Blk)} (h : cst ops base i o s = some (rd, v, u)) :
    (kd o.op = .silent → rd = [] ∧ u.map (·.1) = []) ∧ (kd o.op = .rd → u.map (·.1) = []) := by
  unfold cst at h
  split at h
  · cases he : vex s.ev s.h o.op with
    | none => rw [he] at h; cases h
    | some ef =>
      rw [he] at h
      cases h
      refine ⟨fun hk => ?_, fun hk => ?_⟩
      · obtain ⟨v, rfl⟩ := silent_val hk he; exact ⟨rfl, rfl⟩
      · obtain ⟨m, v, rfl⟩ := rd_noWrite hk he; rfl
  · cases h
    exact ⟨fun _ => ⟨rfl, rfl⟩, fun _ => rfl⟩
  · cases h

theorem ev_same {s s' : St} {ops : Array Oper} {o : Oper} (ht : ∀ d ∈ o.looksAt ops, s'.t d = s.t d) : (∀ x ∈ o.op.operands, s'.ev x = s.ev x) ∧ wantV ops o s'.t = wantV ops o s.t := by
  refine ⟨fun x hx => ?_, ?_⟩
  · cases x with
    | tmp k => exact ht k (by unfold Oper.looksAt; exact List.mem_append_left _ (List.mem_filterMap.2 ⟨.tmp k, by simpa using hx, rfl⟩))
    | _ => rfl
  · have hJ : opJ s'.t o.op = opJ s.t o.op := opJ_local fun k hk => ht k (by unfold Oper.looksAt; exact List.mem_append_left _ (List.mem_filterMap.2 ⟨.tmp k, by simpa using hk, rfl⟩))
    unfold wantV
    rw [hJ]
    cases hg : o.guard with
    | none => rfl
    | some g =>
      obtain ⟨j, want⟩ := g
      simp only
      cases hd : (ops[j]?).bind (·.dst) with
      | none => rfl
      | some d =>
        have := ht d (by unfold Oper.looksAt; rw [hg]; simp [hd])
        simp only [this]

theorem cst_local {ops : Array Oper} {base i : Nat} {o : Oper} {s s' : St} {rd : List Nat} {v : Value} {u : List (Nat × Blk)} (ht : ∀ d ∈ o.looksAt ops, s'.t d = s.t d) (hh : ∀ m ∈ rd, s'.h m = s.h m)
    (h : cst ops base i o s = some (rd, v, u)) : cst ops base i o s' = some (rd, v, u) := by
  obtain ⟨h1, h2⟩ := ev_same (s := s) (s' := s') ht
  unfold cst at h ⊢
  rw [h2]
  cases hw : wantV ops o s.t with
  | none => rw [hw] at h; cases h
  | some b =>
    rw [hw] at h
    cases b with
    | false => exact h
    | true =>
      simp only at h ⊢
      cases he : vex s.ev s.h o.op with
      | none => rw [he] at h; cases h
      | some ef =>
        rw [he] at h
        cases h
        rw [vex_local h1 hh he]
        rfl

theorem app_t {s : St} {d : Option Nat} {v : Value} {u : List (Nat × Blk)} {k : Nat} (h : d ≠ some k) : (s.app d v u).t k = s.t k := by
  cases d with
  | none => rfl
  | some e => exact upd_ne _ _ fun he => h (he ▸ rfl)
theorem app_h (s : St) (d : Option Nat) (v : Value) (u : List (Nat × Blk)) : (s.app d v u).h = updL s.h u := rfl
theorem app_comm {s : St} {d d' : Option Nat} {v v' : Value} {u u' : List (Nat × Blk)} (hd : ∀ k, d = some k → d' ≠ some k) (hu : ∀ x ∈ u, ∀ y ∈ u', x.1 ≠ y.1) : (s.app d v u).app d' v' u' = (s.app d' v' u').app d v u := by
  have h1 := updL_comm s.h u u' hu
  cases d with
  | none =>
    cases d' with
    | none => simp only [St.app, St.put, h1, bump_comm u u']
    | some e => simp only [St.app, St.put, h1, bump_comm u u']
  | some k =>
    cases d' with
    | none => simp only [St.app, St.put, h1, bump_comm u u']
    | some e =>
      have : e ≠ k := fun he => hd k rfl (he ▸ rfl)
      simp only [St.app, St.put, h1, upd_comm s.t v v' this, bump_comm u u']

def comm : Kd → Kd → Bool
  | .silent, _ => true
  | _, .silent => true
  | .rd, .rd => true
  | _, _ => false

def Ind (ops : Array Oper) (U : List (Nat × Nat)) (j : Nat) (oj : Oper) (i : Nat) (oi : Oper) : Prop :=
  Oper.apart ops oj oi = true ∧ (comm (kd oj.op) (kd oi.op) = true ∨ (j, i) ∈ U) ∧ ¬ (kd oj.op = .sp ∧ kd oi.op = .sp)

theorem disj {U : List (Nat × Nat)} {kj ki : Kd} {j i : Nat} {rdj wrj rdi wri : List Nat} {log : List (Nat × List Nat × List Nat)} (h : comm kj ki = true ∨ (j, i) ∈ U)
    (hj : (kj = .silent → rdj = [] ∧ wrj = []) ∧ (kj = .rd → wrj = [])) (hi : (ki = .silent → rdi = [] ∧ wri = []) ∧ (ki = .rd → wri = []))
    (hc : chk U ((j, rdj, wrj) :: log) i rdi wri) : (∀ m ∈ wrj, m ∉ rdi ∧ m ∉ wri) ∧ (∀ m ∈ rdj, m ∉ wri) := by
  rcases h with h | h
  · cases kj with
    | silent => obtain ⟨rfl, rfl⟩ := hj.1 rfl; simp
    | rd =>
      have := hj.2 rfl
      subst this
      cases ki with
      | silent => obtain ⟨rfl, rfl⟩ := hi.1 rfl; simp
      | rd => have := hi.2 rfl; subst this; simp
      | _ => cases h
    | _ =>
      cases ki with
      | silent => obtain ⟨rfl, rfl⟩ := hi.1 rfl; simp
      | _ => cases h
  · exact hc _ List.mem_cons_self h

theorem names_ne {u u' : List (Nat × Blk)} (h : ∀ m ∈ u.map (·.1), m ∉ u'.map (·.1)) : ∀ x ∈ u, ∀ y ∈ u', x.1 ≠ y.1 :=
  fun x hx y hy e => h x.1 (List.mem_map.2 ⟨x, hx, rfl⟩) (List.mem_map.2 ⟨y, hy, e.symm⟩)

/-- AN OPERATION THAT IS INDEPENDENT OF ALL THAT STAND AHEAD OF IT MAY BE TAKEN FIRST. -/
theorem pull {ops : Array Oper} {U : List (Nat × Nat)} {base i : Nat} {o : Oper} {post : List (Nat × Oper)} {K : St → Prop} : ∀ (pre : List (Nat × Oper)) (log : List (Nat × List Nat × List Nat)) (s : St),
    (∀ x ∈ pre, Ind ops U x.1 x.2 i o) → vlex ops U base (pre ++ (i, o) :: post) log s K →
    (∃ rd v u, cst ops base i o s = some (rd, v, u) ∧ chk U log i rd (u.map (·.1)) ∧ vlex ops U base (pre ++ post) log (s.app o.dst v u) K) ∨
    (kd o.op = .sp ∧ wantV ops o s.t = some true ∧ ∃ rd Out, SpOk o (base + i) s.ev s.h rd Out ∧ (∃ v u, Out v u) ∧
      ∀ v u, Out v u → chk U log i rd (u.map (·.1)) ∧ vlex ops U base (pre ++ post) log (s.app o.dst v u) K)
  | [], log, s, _, h => by
    rcases h with ⟨rd, v, u, h1, h2, h3⟩ | ⟨h0, h1, rd, Out, h2, h3, h4⟩
    · exact .inl ⟨rd, v, u, h1, h2, vlex_log (fun e he => List.mem_cons_of_mem _ he) h3⟩
    · exact .inr ⟨h0, h1, rd, Out, h2, h3, fun v u hu => ⟨(h4 v u hu).1, vlex_log (fun e he => List.mem_cons_of_mem _ he) (h4 v u hu).2⟩⟩
  | (j, oj) :: pre, log, s, hind, h => by
    obtain ⟨hap, hcomm, hsp⟩ := hind (j, oj) (by simp)
    simp only at hap hcomm hsp
    obtain ⟨a1, a2, a3⟩ := Oper.apart_spec hap
    have hind' : ∀ x ∈ pre, Ind ops U x.1 x.2 i o := fun x hx => hind x (List.mem_cons_of_mem _ hx)
    have tI : ∀ (s : St) (v : Value) (u : List (Nat × Blk)), ∀ d ∈ o.looksAt ops, (s.app oj.dst v u).t d = s.t d := fun s v u d hd => app_t fun e => a1 d e hd
    have tJ : ∀ (s : St) (v : Value) (u : List (Nat × Blk)), ∀ d ∈ oj.looksAt ops, (s.app o.dst v u).t d = s.t d := fun s v u d hd => app_t fun e => a3 d e hd
    have weak : ∀ {x : Nat × List Nat × List Nat} {i' : Nat} {rd wr : List Nat}, chk U (x :: log) i' rd wr → chk U log i' rd wr := fun h e he => h e (List.mem_cons_of_mem _ he)
    rcases h with ⟨rdj, vj, uj, c1, c2, c3⟩ | ⟨s0, s1, rdj, Outj, s2, s3, s4⟩
    · -- the earlier one is a core operation
      rcases pull pre _ _ hind' c3 with ⟨rdi, vi, ui, d1, d2, d3⟩ | ⟨e0, e1, rdi, Outi, e2, e3, e4⟩
      · obtain ⟨f1, f2⟩ := disj hcomm (cst_kd c1) (cst_kd d1) d2
        have hI : cst ops base i o s = some (rdi, vi, ui) := cst_local (s := s.app oj.dst vj uj) (fun d hd => (tI s vj uj d hd).symm)
          (fun m hm => (updL_other fun x hx e => (f1 x.1 (List.mem_map.2 ⟨x, hx, rfl⟩)).1 (e ▸ hm)).symm) d1
        have hJ : cst ops base j oj (s.app o.dst vi ui) = some (rdj, vj, uj) := cst_local (tJ s vi ui) (fun m hm => updL_other fun x hx e => f2 m hm (List.mem_map.2 ⟨x, hx, e⟩)) c1
        refine .inl ⟨rdi, vi, ui, hI, weak d2, .inl ⟨rdj, vj, uj, hJ, c2, ?_⟩⟩
        rw [app_comm (fun k hk => fun hk' => a2 k hk' hk) (names_ne fun m hm hm' => (f1 m hm').2 hm)]
        exact d3
      · obtain ⟨v0, u0, hu0⟩ := e3
        have hkI : (kd o.op = .silent → rdi = [] ∧ u0.map (·.1) = []) ∧ (kd o.op = .rd → u0.map (·.1) = []) := ⟨fun hk => (by rw [e0] at hk; cases hk), fun hk => (by rw [e0] at hk; cases hk)⟩
        have hkI' : ∀ u' : List Nat, (kd o.op = .silent → rdi = [] ∧ u' = []) ∧ (kd o.op = .rd → u' = []) := fun u' => ⟨fun hk => (by rw [e0] at hk; cases hk), fun hk => (by rw [e0] at hk; cases hk)⟩
        have hkJ : (kd oj.op = .silent → rdj = [] ∧ uj.map (·.1) = []) ∧ (kd oj.op = .rd → uj.map (·.1) = []) := cst_kd c1
        obtain ⟨f1, _⟩ := disj hcomm hkJ hkI (e4 v0 u0 hu0).1
        obtain ⟨g1, g2⟩ := ev_same (s := s.app oj.dst vj uj) (s' := s) (ops := ops) (o := o) (fun d hd => (tI s vj uj d hd).symm)
        have hI : SpOk o (base + i) s.ev s.h rdi Outi := e2.local g1 (fun m hm => (updL_other fun x hx e => (f1 x.1 (List.mem_map.2 ⟨x, hx, rfl⟩)).1 (e ▸ hm)).symm)
        refine .inr ⟨e0, g2.trans e1, rdi, Outi, hI, ⟨v0, u0, hu0⟩, fun vi ui hui => ?_⟩
        obtain ⟨d2, d3⟩ := e4 vi ui hui
        obtain ⟨f1, f2⟩ := disj hcomm hkJ (hkI' _) d2
        have hJ : cst ops base j oj (s.app o.dst vi ui) = some (rdj, vj, uj) := cst_local (tJ s vi ui) (fun m hm => updL_other fun x hx e => f2 m hm (List.mem_map.2 ⟨x, hx, e⟩)) c1
        refine ⟨weak d2, .inl ⟨rdj, vj, uj, hJ, c2, ?_⟩⟩
        rw [app_comm (fun k hk => fun hk' => a2 k hk' hk) (names_ne fun m hm hm' => (f1 m hm').2 hm)]
        exact d3
    · -- the earlier one is a special operation: then the one that is pulled is a core operation
      have core : ∀ vj uj, Outj vj uj → ∃ rdi vi ui, cst ops base i o (s.app oj.dst vj uj) = some (rdi, vi, ui) ∧ chk U ((j, rdj, uj.map (·.1)) :: log) i rdi (ui.map (·.1)) ∧ vlex ops U base (pre ++ post) ((j, rdj, uj.map (·.1)) :: log) ((s.app oj.dst vj uj).app o.dst vi ui) K := by
        intro vj uj huj
        rcases pull pre _ _ hind' (s4 vj uj huj).2 with ⟨rdi, vi, ui, d1, d2, d3⟩ | ⟨e0, _⟩
        · exact ⟨rdi, vi, ui, d1, d2, d3⟩
        · exact absurd ⟨s0, e0⟩ hsp
      have hkJ : ∀ u' : List Nat, (kd oj.op = .silent → rdj = [] ∧ u' = []) ∧ (kd oj.op = .rd → u' = []) := fun u' => ⟨fun hk => (by rw [s0] at hk; cases hk), fun hk => (by rw [s0] at hk; cases hk)⟩
      have hkI : ∀ {rdi vi ui s}, cst ops base i o s = some (rdi, vi, ui) → (kd o.op = .silent → rdi = [] ∧ ui.map (·.1) = []) ∧ (kd o.op = .rd → ui.map (·.1) = []) := fun hc => cst_kd hc
      have back : ∀ {vj uj rdi vi ui}, cst ops base i o (s.app oj.dst vj uj) = some (rdi, vi, ui) → (∀ m ∈ uj.map (·.1), m ∉ rdi) → cst ops base i o s = some (rdi, vi, ui) := by
        intro vj uj rdi vi ui hc hd
        exact cst_local (s := s.app oj.dst vj uj) (fun d hd => (tI s vj uj d hd).symm) (fun m hm => (updL_other fun x hx e => hd x.1 (List.mem_map.2 ⟨x, hx, rfl⟩) (e ▸ hm)).symm) hc
      obtain ⟨v0, u0, hu0⟩ := s3
      obtain ⟨rdi, vi, ui, d1, d2, _⟩ := core v0 u0 hu0
      obtain ⟨f1, f2⟩ := disj hcomm (hkJ _) (hkI d1) d2
      have hI := back d1 fun m hm => (f1 m hm).1
      obtain ⟨g1, g2⟩ := ev_same (s := s) (s' := s.app o.dst vi ui) (ops := ops) (o := oj) (tJ s vi ui)
      have hJ : SpOk oj (base + j) (s.app o.dst vi ui).ev (s.app o.dst vi ui).h rdj Outj := s2.local g1 (fun m hm => updL_other fun x hx e => f2 m hm (List.mem_map.2 ⟨x, hx, e⟩))
      refine .inl ⟨rdi, vi, ui, hI, weak d2, .inr ⟨s0, g2.trans s1, rdj, Outj, hJ, ⟨v0, u0, hu0⟩, fun vj uj huj => ⟨(s4 vj uj huj).1, ?_⟩⟩⟩
      obtain ⟨rdi', vi', ui', d1', d2', d3'⟩ := core vj uj huj
      obtain ⟨f1', _⟩ := disj hcomm (hkJ _) (hkI d1') d2'
      have hI' := back d1' fun m hm => (f1' m hm).1
      rw [hI] at hI'
      cases hI'
      rw [app_comm (fun k hk => fun hk' => a2 k hk' hk) (names_ne fun m hm hm' => (f1' m hm').2 hm)]
      exact d3'

end Go.Proofs.Ytdfkcijholopoaa.Vm
namespace Go.Proofs.Ytdfkcijholopoaa.Vm
open Go
set_option linter.unusedSimpArgs false

/-! ### What stands ahead of what -/
theorem bit_fold {b : Edge → Bool} {acc : Array Nat} : ∀ (l : List Edge) (s0 j : Nat), (l.foldl (fun s e => if b e = true then s ||| 2 ^ e.on ||| acc.getD e.on 0 else s) s0).testBit j = true →
    s0.testBit j = true ∨ ∃ e ∈ l, b e = true ∧ (j = e.on ∨ (acc.getD e.on 0).testBit j = true)
  | [], s0, j, h => .inl h
  | e :: l, s0, j, h => by
    rw [List.foldl_cons] at h
    rcases bit_fold l _ j h with h1 | ⟨e', h1, h2, h3⟩
    · by_cases hb : b e = true
      · rw [if_pos hb] at h1
        rw [Nat.testBit_or, Nat.testBit_or, Bool.or_eq_true, Bool.or_eq_true, Nat.testBit_two_pow] at h1
        rcases h1 with (h1 | h1) | h1
        · exact .inl h1
        · exact .inr ⟨e, by simp, hb, .inl (by simpa using (of_decide_eq_true h1).symm)⟩
        · exact .inr ⟨e, by simp, hb, .inr h1⟩
      · rw [if_neg hb] at h1
        exact .inl h1
    · exact .inr ⟨e', by simp [h1], h2, h3⟩

theorem before_sound {ops : Array Oper} {L : Nat → Prop} (hL : ∀ (i : Nat) (o : Oper), ops[i]? = some o → L i → ∀ e ∈ o.after, Region.binds .any e = true → L e.on)
    {i j : Nat} {o : Oper} (ho : ops[i]? = some o) (hd : ∀ e ∈ o.after, Region.binds .any e = true → L e.on) (hb : ((Region.before ops).getD i 0).testBit j = true) : L j := by
  have key : ∀ (l : List Oper) (k : Nat) (acc : Array Nat), (∀ n, l[n]? = ops[k + n]?) → acc.size = k →
      (∀ i o j, ops[i]? = some o → (∀ e ∈ o.after, Region.binds .any e = true → L e.on) → (acc.getD i 0).testBit j = true → L j) →
      ∀ i o j, ops[i]? = some o → (∀ e ∈ o.after, Region.binds .any e = true → L e.on) →
        ((l.foldl (fun acc o => acc.push (o.after.foldl (fun s e => if Region.binds .any e = true then s ||| 2 ^ e.on ||| acc.getD e.on 0 else s) 0)) acc).getD i 0).testBit j = true → L j := by
    intro l
    induction l with
    | nil => intro k acc _ _ h; exact h
    | cons x l ih =>
      intro k acc hl hs h
      rw [List.foldl_cons]
      refine ih (k + 1) _ (fun n => by have := hl (n + 1); simpa [Nat.add_assoc, Nat.add_comm 1 n] using this) (by simp [hs]) ?_
      intro i o j ho hd hb
      have hx : ops[k]? = some x := by simpa using (hl 0).symm
      by_cases hi : i = k
      · subst hi
        rw [hx] at ho
        cases ho
        have this : ∀ v : Nat, (acc.push v).getD i 0 = v := by
          intro v
          rw [← hs, Array.getD_eq_getD_getElem?, Array.getElem?_push_size]
          rfl
        rw [this, ← Array.foldl_toList] at hb
        rcases bit_fold _ _ _ hb with h0 | ⟨e, he, hbe, h1⟩
        · simp at h0
        · have he' : e ∈ x.after := by simpa using he
          have hLe := hd e he' hbe
          rcases h1 with rfl | h1
          · exact hLe
          · cases hoe : ops[e.on]? with
            | none =>
              have : acc.getD e.on 0 = 0 := by
                have h2 : ops.size ≤ e.on := Array.getElem?_eq_none_iff.1 hoe
                have h3 : i < ops.size := (Array.getElem?_eq_some_iff.1 hx).1
                simp [Array.getD_eq_getD_getElem?, Array.getElem?_eq_none (show acc.size ≤ e.on by omega)]
              rw [this] at h1
              simp at h1
            | some oe => exact h e.on oe j hoe (hL e.on oe hoe hLe) h1
      · have : (acc.push (x.after.foldl (fun s e => if Region.binds .any e = true then s ||| 2 ^ e.on ||| acc.getD e.on 0 else s) 0)).getD i 0 = acc.getD i 0 := by
          simp only [Array.getD_eq_getD_getElem?, Array.getElem?_push]
          rw [if_neg (by omega)]
        rw [this] at hb
        exact h i o j ho hd hb
  have hbef : Region.before ops = ops.toList.foldl (fun acc o => acc.push (o.after.foldl (fun s e => if Region.binds .any e = true then s ||| 2 ^ e.on ||| acc.getD e.on 0 else s) 0)) #[] := by
    unfold Region.before
    rw [← Array.foldl_toList]
  rw [hbef] at hb
  exact key ops.toList 0 #[] (by simp) rfl (fun i o j _ _ h => by simp at h) i o j ho hd hb

def indB (ops : Array Oper) (U : List (Nat × Nat)) (j i : Nat) : Bool :=
  Oper.apart ops (ops.getD j default) (ops.getD i default) && (comm (kd (ops.getD j default).op) (kd (ops.getD i default).op) || U.contains (j, i)) &&
    !(kd (ops.getD j default).op == .sp && kd (ops.getD i default).op == .sp)

def goodR (ops : Array Oper) (U : List (Nat × Nat)) : Bool :=
  (List.range ops.size).all fun i =>
    ((ops.getD i default).after.toList.all fun e => !Region.binds .any e || decide (e.on < i)) &&
    ((List.range i).all fun j => ((Region.before ops).getD i 0).testBit j || indB ops U j i)

theorem goodR_spec {ops : Array Oper} {U : List (Nat × Nat)} (h : goodR ops U = true) {i : Nat} {o : Oper} (ho : ops[i]? = some o) :
    (∀ e ∈ o.after, Region.binds .any e = true → e.on < i) ∧ ∀ j oj, j < i → ops[j]? = some oj → ((Region.before ops).getD i 0).testBit j = true ∨ Ind ops U j oj i o := by
  have hi : i < ops.size := (Array.getElem?_eq_some_iff.1 ho).1
  have hd : ops.getD i default = o := by rw [Array.getD_eq_getD_getElem?, ho]; rfl
  unfold goodR at h
  rw [List.all_eq_true] at h
  have h1 := h i (by simpa using hi)
  rw [Bool.and_eq_true, List.all_eq_true, List.all_eq_true, hd] at h1
  refine ⟨fun e he hb => ?_, fun j oj hj hoj => ?_⟩
  · have := h1.1 e (by simpa using he)
    simpa [hb] using this
  · have h2 := h1.2 j (by simpa using hj)
    have hdj : ops.getD j default = oj := by rw [Array.getD_eq_getD_getElem?, hoj]; rfl
    rw [Bool.or_eq_true] at h2
    refine h2.imp id fun h3 => ?_
    unfold indB at h3
    rw [hdj, hd] at h3
    simp only [Bool.and_eq_true, Bool.or_eq_true, Bool.not_eq_true', Bool.and_eq_false_iff, beq_eq_false_iff_ne, ne_eq, List.contains_iff_mem] at h3
    refine ⟨h3.1.1, h3.1.2, fun hs => ?_⟩
    rcases h3.2 with h4 | h4
    · exact h4 hs.1
    · exact h4 hs.2

/-- WHATEVER ORDER IS PICKED: the run in the order of the text serves it. -/
theorem any_of_vlex {M : Nat → Prop} {w0 : World} {N : Nat} {ops : Array Oper} {U : List (Nat × Nat)} {base : Nat} {K : St → Prop} {Q : Exit → Act → World → Prop} (hg : goodR ops U = true) (hok : ∀ (i : Nat) (o : Oper), ops[i]? = some o → okOp N o = true) {ρ0 : Nat → Option (Nat × Nat)}
    (hQ : ∀ ρ' s' a' w', Ext ρ0 ρ' → RR M w0 N (fun m => s'.n ≤ m) ρ' s' a' w' → K s' → Q .normal a' w') :
    ∀ (fuel : Nat) (rem : List (Nat × Oper)) (listed : Array Bool) (ρ : Nat → Option (Nat × Nat)) (s : St) (a : Act) (w : World), rem.length = fuel → listed.size = ops.size →
      (∀ x ∈ rem, ops[x.1]? = some x.2 ∧ listed.getD x.1 true = false) → (∀ k, k < ops.size → listed.getD k true = false → ∃ o, (k, o) ∈ rem) → rem.Pairwise (fun x y => x.1 < y.1) →
      (∀ (i : Nat) (o : Oper), ops[i]? = some o → listed.getD i false = true → ∀ e ∈ o.after, Region.binds .any e = true → listed.getD e.on false = true) →
      Ext ρ0 ρ → RR M w0 N (fun m => s.n ≤ m ∨ ∃ k, m = base + k ∧ k < ops.size ∧ listed.getD k true = false) ρ s a w → vlex ops U base rem [] s K → wpAny P .any ops Q fuel listed a w := by
  intro fuel
  have tf : ∀ {listed : Array Bool} {k : Nat}, k < listed.size → (listed.getD k true = false ∨ listed.getD k false = true) := by
    intro listed k hk
    simp only [Array.getD_eq_getD_getElem?, Array.getElem?_eq_getElem hk, Option.getD_some]
    cases listed[k] <;> simp
  have tf' : ∀ {listed : Array Bool} {k : Nat}, listed.getD k true = false → listed.getD k false = true → False := by
    intro listed k h1 h2
    rcases Nat.lt_or_ge k listed.size with hk | hk
    · simp only [Array.getD_eq_getD_getElem?, Array.getElem?_eq_getElem hk, Option.getD_some] at h1 h2
      rw [h1] at h2; cases h2
    · simp [Array.getD_eq_getD_getElem?, Array.getElem?_eq_none hk] at h1
  -- the first that is left may come up
  have first : ∀ {k0 : Nat} {o0 : Oper} {rest : List (Nat × Oper)} {listed : Array Bool}, listed.size = ops.size → (∀ x ∈ (k0, o0) :: rest, ops[x.1]? = some x.2 ∧ listed.getD x.1 true = false) →
      (∀ k, k < ops.size → listed.getD k true = false → ∃ o, (k, o) ∈ (k0, o0) :: rest) → ((k0, o0) :: rest).Pairwise (fun x y => x.1 < y.1) → k0 ∈ Region.ready .any ops listed := by
    intro k0 o0 rest listed hsz hrem hall hpw
    obtain ⟨h1, h2⟩ := hrem (k0, o0) (by simp)
    refine mem_ready.2 ⟨h2, o0, h1, fun e he hb => ?_⟩
    have hlt := (goodR_spec hg h1).1 e he hb
    simp only at hlt h1
    have hk0 : k0 < ops.size := (Array.getElem?_eq_some_iff.1 h1).1
    rcases tf (listed := listed) (k := e.on) (by omega) with h3 | h3
    · obtain ⟨o', h4⟩ := hall e.on (by omega) h3
      rcases List.mem_cons.1 h4 with h5 | h5
      · cases h5; omega
      · have := (List.pairwise_cons.1 hpw).1 _ h5
        simp only at this
        omega
    · exact h3
  induction fuel with
  | zero =>
    intro rem listed ρ s a w hlen hsz hrem hall hpw hcl he hr hv
    have : rem = [] := List.length_eq_zero_iff.1 hlen
    subst this
    refine ⟨?_, hQ ρ s a w he (hr.mono fun m hm => .inl hm) hv⟩
    rw [List.eq_nil_iff_forall_not_mem]
    intro i hi
    obtain ⟨h1, o, h2, _⟩ := mem_ready.1 hi
    obtain ⟨o', h3⟩ := hall i (Array.getElem?_eq_some_iff.1 h2).1 h1
    cases h3
  | succ fuel ih =>
    intro rem listed ρ s a w hlen hsz hrem hall hpw hcl he hr hv
    refine ⟨fun h0 => ?_, fun i hi => ?_⟩
    · cases rem with
      | nil => cases hlen
      | cons x rest =>
        have := first hsz hrem hall hpw
        rw [h0] at this
        cases this
    · obtain ⟨h1, o, h2, h3⟩ := mem_ready.1 hi
      have hilt : i < ops.size := (Array.getElem?_eq_some_iff.1 h2).1
      obtain ⟨o', h4⟩ := hall i hilt h1
      have h5 := (hrem _ h4).1
      simp only at h5
      rw [h2] at h5
      cases h5
      obtain ⟨pre, post, rfl⟩ := List.append_of_mem h4
      have hpre : ∀ x ∈ pre, Ind ops U x.1 x.2 i o := by
        intro x hx
        obtain ⟨h6, h7⟩ := hrem x (by simp [hx])
        have hlt : x.1 < i := by
          have := (List.pairwise_append.1 hpw).2.2 x hx (i, o) (by simp)
          simpa using this
        rcases (goodR_spec hg h2).2 x.1 x.2 hlt h6 with h8 | h8
        · exact (tf' h7 (before_sound (L := fun k => listed.getD k false = true) (fun i o ho hl e he hb => hcl i o ho hl e he hb) h2 h3 h8)).elim
        · exact h8
      have hdis : Dis ops base i o s (fun s' => vlex ops U base (pre ++ post) [] s' K) := by
        rcases pull pre [] s hpre hv with ⟨rd, v, u, d1, _, d3⟩ | ⟨_, e1, rd, Out, e2, _, e4⟩
        · exact .inl ⟨rd, v, u, d1, d3⟩
        · exact .inr ⟨e1, rd, Out, e2, fun v u hu => (e4 v u hu).2⟩
      unfold wpOp
      rw [h2]
      simp only
      refine dis_step (Q := Q) hdis hr (.inr ⟨i, rfl, hilt, h1⟩) (hok i o h2) ?_
      · intro ρ' v u a' w' he' hu hr' hv'
        have hset : ∀ k, k ≠ i → (listed.setIfInBounds i true).getD k true = listed.getD k true := fun k hk => getD_set_ne true (Ne.symm hk)
        have hset' : ∀ k, k ≠ i → (listed.setIfInBounds i true).getD k false = listed.getD k false := fun k hk => getD_set_ne false (Ne.symm hk)
        have hseti : (listed.setIfInBounds i true).getD i true = true := by
          simp [Array.getD_eq_getD_getElem?, hsz, hilt]
        have hne : ∀ x ∈ pre ++ post, x.1 ≠ i := by
          intro x hx
          rcases List.mem_append.1 hx with hx | hx
          · have := (List.pairwise_append.1 hpw).2.2 x hx (i, o) (by simp)
            simp only at this
            omega
          · have := (List.pairwise_cons.1 (List.pairwise_append.1 hpw).2.1).1 x hx
            simp only at this
            omega
        refine ih (pre ++ post) (listed.setIfInBounds i true) ρ' (s.app o.dst v u) a' w' (by simp at hlen ⊢; omega) (by simpa using hsz) ?_ ?_ ?_ ?_ (he.trans he') ?_ hv'
        · intro x hx
          obtain ⟨h6, h7⟩ := hrem x (by rcases List.mem_append.1 hx with hx | hx <;> simp [hx])
          exact ⟨h6, by rw [hset _ (hne x hx)]; exact h7⟩
        · intro k hk hl
          have hki : k ≠ i := fun e => by subst e; rw [hseti] at hl; cases hl
          rw [hset k hki] at hl
          obtain ⟨o', h6⟩ := hall k hk hl
          refine ⟨o', ?_⟩
          rcases List.mem_append.1 h6 with h7 | h7
          · exact List.mem_append_left _ h7
          · rcases List.mem_cons.1 h7 with h8 | h8
            · cases h8; exact absurd rfl hki
            · exact List.mem_append_right _ h8
        · rw [List.pairwise_append] at hpw ⊢
          exact ⟨hpw.1, (List.pairwise_cons.1 hpw.2.1).2, fun x hx y hy => hpw.2.2 x hx y (by simp [hy])⟩
        · intro k ok hok' hl e hee hb
          by_cases hki : k = i
          · subst hki
            rw [h2] at hok'
            cases hok'
            exact getD_set_true (h3 e hee hb)
          · rw [hset' k hki] at hl
            exact getD_set_true (hcl k ok hok' hl e hee hb)
        · refine hr'.mono fun m hm => ?_
          rcases hm with hm | ⟨k, hk, hlt, hl⟩
          · have hm' : bump s.n u ≤ m := hm
            refine ⟨.inl (by have := le_bump u s.n; omega), fun hmem => ?_⟩
            obtain ⟨x, hx, rfl⟩ := List.mem_map.1 hmem
            have := lt_bump (n := s.n) hx
            omega
          · have hki : k ≠ i := fun e => by subst e; rw [hseti] at hl; cases hl
            rw [hset k hki] at hl
            have hf : s.n ≤ m ∨ ∃ k, m = base + k ∧ k < ops.size ∧ listed.getD k true = false := .inr ⟨k, hk, hlt, hl⟩
            refine ⟨hf, fun hmem => ?_⟩
            obtain ⟨x, hx, rfl⟩ := List.mem_map.1 hmem
            rcases hu x hx with h | h
            · omega
            · exact h hf

end Go.Proofs.Ytdfkcijholopoaa.Vm
namespace Go.Proofs.Ytdfkcijholopoaa.Vm
open Go Go.RowKit
set_option linter.unusedSimpArgs false

/-- The names below B stand for what they stood for. -/
def ExtB (B : Nat) (ρ ρ' : Nat → Option (Nat × Nat)) : Prop := ∀ m x, m < B → ρ m = some x → ρ' m = some x
theorem ExtB.refl {B : Nat} (ρ : Nat → Option (Nat × Nat)) : ExtB B ρ ρ := fun _ _ _ h => h
theorem ExtB.trans {B : Nat} {a b c : Nat → Option (Nat × Nat)} (h : ExtB B a b) (k : ExtB B b c) : ExtB B a c := fun m x hm hx => k m x hm (h m x hm hx)
theorem Ext.toB {B : Nat} {a b : Nat → Option (Nat × Nat)} (h : Ext a b) : ExtB B a b := fun m x _ hx => h m x hx

/-- CODE OVER VIRTUAL STATES: whatever frame and world stand for s, the code ends, and what it ends in stands for a state of Q. -/
def VC {B : Nat} (N : Nat) (c : Code) (Q : Exit → St → Prop) (s : St) : Prop :=
  ∀ (M : Nat → Prop) (w0 : World) (ρ : Nat → Option (Nat × Nat)) (a : Act) (w : World), RR M w0 N (fun m => s.n ≤ m) ρ s a w →
    c.wp P (fun e a' w' => ∃ ρ' s', ExtB B ρ ρ' ∧ RR M w0 N (fun m => s'.n ≤ m) ρ' s' a' w' ∧ Q e s') a w

def thenV {B : Nat} (N : Nat) (y : Code) (Q : Exit → St → Prop) : Exit → St → Prop
  | .normal, s => VC (B := B) N y Q s
  | e, s => Q e s
def blockV (id : Nat) (Q : Exit → St → Prop) : Exit → St → Prop
  | .exit id', s => if id' = id then Q .normal s else Q (.exit id') s
  | e, s => Q e s

theorem VC.mono {B N : Nat} {c : Code} {Q Q' : Exit → St → Prop} {s : St} (h : VC (B := B) N c Q s) (hq : ∀ e s, Q e s → Q' e s) : VC (B := B) N c Q' s :=
  fun M w0 ρ a w hr => wp_mono (h M w0 ρ a w hr) fun e _ _ ⟨ρ', s', h1, h2, h3⟩ => ⟨ρ', s', h1, h2, hq e s' h3⟩

theorem vc_skip {B N : Nat} {Q : Exit → St → Prop} {s : St} (h : Q .normal s) : VC (B := B) N .skip Q s := fun _ _ ρ _ _ hr => wp_skip ⟨ρ, s, ExtB.refl _, hr, h⟩
theorem vc_ret {B N : Nat} {Q : Exit → St → Prop} {s : St} (h : Q .ret s) : VC (B := B) N .ret Q s := fun _ _ ρ _ _ hr => wp_ret ⟨ρ, s, ExtB.refl _, hr, h⟩
theorem vc_exit {B N id : Nat} {Q : Exit → St → Prop} {s : St} (h : Q (.exit id) s) : VC (B := B) N (.exit id) Q s := fun _ _ ρ _ _ hr => wp_exit ⟨ρ, s, ExtB.refl _, hr, h⟩

theorem vc_seq {B N : Nat} {x y : Code} {Q : Exit → St → Prop} {s : St} (h : VC (B := B) N x (thenV (B := B) N y Q) s) : VC (B := B) N (.seq x y) Q s := by
  intro M w0 ρ a w hr
  refine wp_seq (wp_mono (h M w0 ρ a w hr) ?_)
  rintro e a' w' ⟨ρ', s', h1, h2, h3⟩
  cases e with
  | normal =>
    refine wp_mono (h3 M w0 ρ' a' w' h2) ?_
    rintro e a2 w2 ⟨ρ2, s2, h4, h5, h6⟩
    exact ⟨ρ2, s2, h1.trans h4, h5, h6⟩
  | _ => exact ⟨ρ', s', h1, h2, h3⟩

theorem vc_block {B N id : Nat} {c : Code} {Q : Exit → St → Prop} {s : St} (h : VC (B := B) N c (blockV id Q) s) : VC (B := B) N (.block id c) Q s := by
  intro M w0 ρ a w hr
  refine wp_block (wp_mono (h M w0 ρ a w hr) ?_)
  rintro e a' w' ⟨ρ', s', h1, h2, h3⟩
  cases e with
  | exit id' =>
    simp only [blockV] at h3
    simp only [Exit.inBlock]
    split
    · rename_i he; rw [if_pos he] at h3; exact ⟨ρ', s', h1, h2, h3⟩
    · rename_i he; rw [if_neg he] at h3; exact ⟨ρ', s', h1, h2, h3⟩
  | _ => exact ⟨ρ', s', h1, h2, h3⟩

theorem vc_cond {B N : Nat} {c : Operand} {x y : Code} {Q : Exit → St → Prop} {s : St} {t : Bool} (hc : s.ev c = .bool t) (h1 : t = true → VC (B := B) N x Q s) (h2 : t = false → VC (B := B) N y Q s) : VC (B := B) N (.cond c x y) Q s := by
  intro M w0 ρ a w hr
  have he : a.eval c = .bool t := by
    cases c with
    | tmp k => have := hr.tmp k; rw [show s.t k = .bool t from hc] at this; exact (this rfl).bool_inv
    | const v => exact hc
    | global g => cases hc
    | func f => cases hc
  cases t with
  | true => exact wp_cond he (h1 rfl M w0 ρ a w hr)
  | false => exact wp_cond he (h2 rfl M w0 ρ a w hr)

/-- A LOOP: an invariant that bears a number, which every round lowers. -/
theorem vc_loop {B N : Nat} {c : Code} {Q : Exit → St → Prop} {s : St} (I : Nat → St → Prop) (n0 : Nat) (h0 : I n0 s) (round : ∀ n s, I n s → VC (B := B) N c (fun e s' => match e with | .normal => ∃ n', n' < n ∧ I n' s' | e => Q e s') s) : VC (B := B) N (.loop c) Q s := by
  intro M w0 ρ a w hr
  refine wp_loop_ghost (fun n a w => ∃ ρ' s', ExtB B ρ ρ' ∧ RR M w0 N (fun m => s'.n ≤ m) ρ' s' a w ∧ I n s') n0 ⟨ρ, s, ExtB.refl _, hr, h0⟩ ?_
  rintro n a w ⟨ρ1, s1, h1, h2, h3⟩
  refine wp_mono (round n s1 h3 M w0 ρ1 a w h2) ?_
  rintro e a' w' ⟨ρ2, s2, h4, h5, h6⟩
  cases e with
  | normal =>
    obtain ⟨n', h7, h8⟩ := h6
    exact ⟨n', h7, ρ2, s2, h1.trans h4, h5, h8⟩
  | _ => exact ⟨ρ2, s2, h1.trans h4, h5, h6⟩

/-! ### Regions -/
/-- The run, one operation at a time (a region that keeps the text's order). -/
def vgo (ops : Array Oper) (base : Nat) : Nat → List Oper → St → (St → Prop) → Prop
  | _, [], s, K => K s
  | i, o :: rest, s, K =>
    match wantV ops o s.t with
    | some true => match vex s.ev s.h o.op with
      | some ef => vgo ops base (i + 1) rest (s.app o.dst (ef.out (base + i)).1 (ef.out (base + i)).2) K
      | none => kd o.op = .sp ∧ ∃ rd Out, SpOk o (base + i) s.ev s.h rd Out ∧ (∃ v u, Out v u) ∧ ∀ v u, Out v u → vgo ops base (i + 1) rest (s.app o.dst v u) K
    | some false => vgo ops base (i + 1) rest (s.put o.dst undef) K
    | none => False

theorem chk_nil (log : List (Nat × List Nat × List Nat)) (i : Nat) (rd wr : List Nat) : chk [] log i rd wr := fun _ _ h => by cases h

theorem vlex_of_vgo {ops : Array Oper} {base : Nat} {K : St → Prop} : ∀ {l : List Oper} {i : Nat} {s : St} {log : List (Nat × List Nat × List Nat)}, vgo ops base i l s K → vlex ops [] base (idx i l) log s K
  | [], _, _, _, h => h
  | o :: l, i, s, log, h => by
    unfold vgo at h
    split at h
    · rename_i hw
      split at h
      · rename_i ef he
        refine .inl ⟨ef.rds, _, _, ?_, chk_nil _ _ _ _, vlex_of_vgo h⟩
        unfold cst
        rw [hw]
        simp only [he, Option.map_some]
      · obtain ⟨h1, rd, Out, h2, h3, h4⟩ := h
        exact .inr ⟨h1, hw, rd, Out, h2, h3, fun v u hu => ⟨chk_nil _ _ _ _, vlex_of_vgo (h4 v u hu)⟩⟩
    · rename_i hw
      refine .inl ⟨[], undef, [], ?_, chk_nil _ _ _ _, ?_⟩
      · unfold cst; rw [hw]
      · rw [St.app_undef]; exact vlex_of_vgo h
    · exact h.elim

/-- The run, one operation at a time (a region that draws its order). -/
def vgoD (ops : Array Oper) (U : List (Nat × Nat)) (base : Nat) : Nat → List Oper → List (Nat × List Nat × List Nat) → St → (St → Prop) → Prop
  | _, [], _, s, K => K s
  | i, o :: rest, log, s, K =>
    match wantV ops o s.t with
    | some true => match vex s.ev s.h o.op with
      | some ef => chk U log i ef.rds ((ef.out (base + i)).2.map (·.1)) ∧ vgoD ops U base (i + 1) rest ((i, ef.rds, (ef.out (base + i)).2.map (·.1)) :: log) (s.app o.dst (ef.out (base + i)).1 (ef.out (base + i)).2) K
      | none => kd o.op = .sp ∧ ∃ rd Out, SpOk o (base + i) s.ev s.h rd Out ∧ (∃ v u, Out v u) ∧ ∀ v u, Out v u → chk U log i rd (u.map (·.1)) ∧ vgoD ops U base (i + 1) rest ((i, rd, u.map (·.1)) :: log) (s.app o.dst v u) K
    | some false => vgoD ops U base (i + 1) rest log (s.put o.dst undef) K
    | none => False

theorem vlex_of_vgoD {ops : Array Oper} {U : List (Nat × Nat)} {base : Nat} {K : St → Prop} : ∀ {l : List Oper} {i : Nat} {s : St} {log log' : List (Nat × List Nat × List Nat)}, (∀ e ∈ log', e ∈ log ∨ (e.2.1 = [] ∧ e.2.2 = [])) →
    vgoD ops U base i l log s K → vlex ops U base (idx i l) log' s K
  | [], _, _, _, _, _, h => h
  | o :: l, i, s, log, log', hl, h => by
    have hc : ∀ {rd wr}, chk U log i rd wr → chk U log' i rd wr := by
      intro rd wr h e he hu
      rcases hl e he with h1 | ⟨h1, h2⟩
      · exact h e h1 hu
      · rw [h1, h2]; simp
    have hl' : ∀ x, ∀ e ∈ x :: log', e ∈ x :: log ∨ (e.2.1 = [] ∧ e.2.2 = []) := fun x e he => by
      rcases List.mem_cons.1 he with rfl | he
      · exact .inl List.mem_cons_self
      · exact (hl e he).imp (List.mem_cons_of_mem _) id
    unfold vgoD at h
    split at h
    · rename_i hw
      split at h
      · rename_i ef he
        refine .inl ⟨ef.rds, _, _, ?_, hc h.1, vlex_of_vgoD (hl' _) h.2⟩
        unfold cst
        rw [hw]
        simp only [he, Option.map_some]
      · obtain ⟨h1, rd, Out, h2, h3, h4⟩ := h
        exact .inr ⟨h1, hw, rd, Out, h2, h3, fun v u hu => ⟨hc (h4 v u hu).1, vlex_of_vgoD (hl' _) (h4 v u hu).2⟩⟩
    · rename_i hw
      refine .inl ⟨[], undef, [], ?_, fun e _ _ => by simp, ?_⟩
      · unfold cst; rw [hw]
      · rw [St.app_undef]
        refine vlex_of_vgoD (fun e he => ?_) h
        rcases List.mem_cons.1 he with rfl | he
        · exact .inr ⟨rfl, rfl⟩
        · exact hl e he
    · exact h.elim

theorem vc_region {B N id : Nat} {l : List Oper} {Q : Exit → St → Prop} {s : St} (hok : l.all (okOp N) = true) (h : ∀ K : St → Prop, (∀ s', Q .normal s' → K s') → vgo l.toArray s.n 0 l s K) : VC (B := B) N (.region id l.toArray false) Q s := by
  intro M w0 ρ a w hr
  refine wp_region_lit ?_
  refine vlex_list (M := M) (w0 := w0) (N := N) l 0 [] ρ s a w (vlex_of_vgo (h (fun s' => Q .normal s') fun _ h => h)) (Nat.le_refl _) hr hok ?_
  intro ρ' s' a' w' he hr' hk
  exact ⟨ρ', s', he.toB, hr', hk⟩

theorem mixed : P.follows .mixedOrders = true := by kernel_rfl

theorem idx_get : ∀ (l : List Oper) (k : Nat) (x : Nat × Oper), x ∈ idx k l → k ≤ x.1 ∧ l[x.1 - k]? = some x.2
  | [], _, _, h => by cases h
  | o :: l, k, x, h => by
    rcases List.mem_cons.1 h with rfl | h
    · simp
    · obtain ⟨h1, h2⟩ := idx_get l (k + 1) x h
      refine ⟨by omega, ?_⟩
      rw [show x.1 - k = (x.1 - (k + 1)) + 1 by omega]
      simpa using h2
theorem idx_mem : ∀ (l : List Oper) (k i : Nat) (o : Oper), l[i]? = some o → (k + i, o) ∈ idx k l
  | [], _, _, _, h => by simp at h
  | x :: l, k, 0, o, h => by simp at h; subst h; simp [idx]
  | x :: l, k, i + 1, o, h => by
    have := idx_mem l (k + 1) i o (by simpa using h)
    rw [show k + (i + 1) = k + 1 + i by omega]
    exact List.mem_cons_of_mem _ this
theorem idx_pair : ∀ (l : List Oper) (k : Nat), (idx k l).Pairwise (fun x y => x.1 < y.1)
  | [], _ => List.Pairwise.nil
  | o :: l, k => List.pairwise_cons.2 ⟨fun y hy => by have := (idx_get l (k + 1) y hy).1; simp only; omega, idx_pair l (k + 1)⟩
theorem idx_length : ∀ (l : List Oper) (k : Nat), (idx k l).length = l.length
  | [], _ => rfl
  | o :: l, k => by simp [idx, idx_length l]

theorem RR.drew {M : Nat → Prop} {w0 : World} {N : Nat} {fr : Nat → Prop} {ρ : Nat → Option (Nat × Nat)} {s : St} {a : Act} {w : World} (hr : RR M w0 N fr ρ s a w) : RR M w0 N fr ρ s a { w with drawn := w.drawn + 1 } :=
  ⟨hr.size, hr.defers, hr.tmp, ⟨hr.heap.blk, hr.heap.inj, hr.heap.new⟩, hr.fresh, ⟨hr.kept.os, hr.kept.tape, hr.kept.output, hr.kept.size, hr.kept.block⟩⟩

theorem vc_regionD {B N id : Nat} {l : List Oper} {Q : Exit → St → Prop} {s : St} (U : List (Nat × Nat)) (hok : l.all (okOp N) = true) (hg : goodR l.toArray U = true)
    (h : ∀ K : St → Prop, (∀ s', Q .normal s' → K s') → vgoD l.toArray U s.n 0 l [] s K) : VC (B := B) N (.region id l.toArray true) Q s := by
  intro M w0 ρ a w hr
  refine wp_region_any mixed ?_
  have hv := vlex_of_vgoD (log' := []) (fun e he => by cases he) (h (fun s' => Q .normal s') fun _ h => h)
  refine any_of_vlex (M := M) (w0 := w0) (N := N) (base := s.n) (ρ0 := ρ) hg ?_ ?_ l.toArray.size (idx 0 l) (Array.replicate l.toArray.size false) ρ s a _ (by simp [idx_length]) (by simp) ?_ ?_ (idx_pair l 0) ?_ (Ext.refl _) ?_ hv
  · intro i o ho
    exact List.all_eq_true.1 hok o (List.mem_of_getElem? (by simpa using ho))
  · intro ρ' s' a' w' he hr' hk
    exact ⟨ρ', s', he.toB, hr', hk⟩
  · intro x hx
    obtain ⟨_, h2⟩ := idx_get l 0 x hx
    have hlt : x.1 < l.length := (List.getElem?_eq_some_iff.1 (by simpa using h2)).1
    exact ⟨by simpa using h2, by simp [Array.getD_eq_getD_getElem?, hlt]⟩
  · intro k hk _
    have hk' : k < l.length := by simpa using hk
    exact ⟨l[k], by have := idx_mem l 0 k l[k] (by simp [hk']); simpa using this⟩
  · intro i o ho hl
    have hlt : i < l.length := by simpa using (Array.getElem?_eq_some_iff.1 ho).1
    simp [Array.getD_eq_getD_getElem?, hlt] at hl
  · refine hr.drew.mono fun m hm => ?_
    rcases hm with hm | ⟨k, rfl, _⟩
    · exact hm
    · exact Nat.le_add_right _ _

end Go.Proofs.Ytdfkcijholopoaa.Vm
namespace Go.Proofs.Ytdfkcijholopoaa.Vm
open Go Go.RowKit
set_option linter.unusedSimpArgs false

/-- A result of the virtual run. -/
def vres (s : St) : ResultVar → Option Value
  | .tmp t => match isJ (s.t t) with
    | true => none
    | false => some (s.t t)
  | .cell p t => match s.t p, ty t with
    | .pointer (some ⟨m, k, none⟩), some (ag, z) => match s.h m with
      | some (.cells c _ _) => partAt ag z.length c k
      | _ => none
    | _, _ => none
def vresL (s : St) : List ResultVar → Option (List Value)
  | [] => some []
  | r :: l => (vres s r).bind fun v => (vresL s l).map (v :: ·)
def vresult (s : St) (l : List ResultVar) : Option Value :=
  match l with
  | [r] => vres s r
  | l => (vresL s l).map fun vs => .tuple vs.toArray

section
variable {M : Nat → Prop} {w0 : World} {N : Nat} {fr : Nat → Prop} {ρ : Nat → Option (Nat × Nat)} {s : St} {a : Act} {w : World}

noncomputable def resRun (c : Array Value) : ResultVar → Sem Value
  | .tmp i => pure (c.getD i undef)
  | .cell i t => asAddr (c.getD i undef) >>= loadVar t

theorem vres_sound (hr : RR M w0 N fr ρ s a w) {r : ResultVar} {v : Value} (h : vres s r = some v) : ∃ v', (resRun a.tmps r).run P w = .ok v' w ∧ Rel ρ v v' := by
  cases r with
  | tmp t =>
    simp only [vres] at h
    split at h
    · cases h
    · rename_i hj; cases h; exact ⟨_, rfl, hr.tmp t hj⟩
  | cell p t =>
    simp only [vres] at h
    split at h
    · rename_i m k ag z hp ht
      split at h
      · rename_i c e own hm
        have h1 := hr.tmp p
        rw [hp] at h1
        replace h1 := h1 rfl
        obtain ⟨r, o, h2, h3⟩ := h1.ptr_inv
        obtain ⟨r', o', h4, h5, _⟩ := hr.heap.blk m _ hm
        rw [h2] at h4
        cases h4
        obtain ⟨v', h6, h7⟩ := partAt_sound (k := k) (ty_ok ht) h5 h
        refine ⟨v', ?_, h7⟩
        simp only [resRun, h3, asAddr, Sem.run_bind, Sem.run_pure, Result.andThen_ok, h6]
      · cases h
    · cases h

theorem vresL_sound (hr : RR M w0 N fr ρ s a w) : ∀ {l : List ResultVar} {vs : List Value}, vresL s l = some vs → ∃ vs', (l.mapM (resRun a.tmps)).run P w = .ok vs' w ∧ RelL ρ vs vs'
  | [], vs, h => by cases h; exact ⟨[], rfl, rfl, fun i v v' a _ => by simp at a⟩
  | r :: l, vs, h => by
    unfold vresL at h
    cases h1 : vres s r with
    | none => rw [h1] at h; cases h
    | some v =>
      rw [h1, Option.bind_some] at h
      cases h2 : vresL s l with
      | none => rw [h2] at h; cases h
      | some us =>
        rw [h2] at h
        cases h
        obtain ⟨v', h3, h4⟩ := vres_sound hr h1
        obtain ⟨us', h5, h6⟩ := vresL_sound hr h2
        refine ⟨v' :: us', ?_, ?_⟩
        · simp only [List.mapM_cons, Sem.run_bind, h3, Result.andThen_ok, h5, Sem.run_pure]
        · refine ⟨by simp [h6.1], fun i x x' hx hx' => ?_⟩
          cases i with
          | zero => simp at hx hx'; subst hx; subst hx'; exact h4
          | succ i => exact h6.2 i x x' (by simpa using hx) (by simpa using hx')

theorem results_eq (fn : Func) (tmps : Array Value) : results fn tmps = (do
    let vs ← fn.results.toList.mapM (resRun tmps)
    pure (match vs with | [v] => v | vs => .tuple vs.toArray) : Sem Value) := by
  have h0 : results fn tmps = (do
      let vs ← fn.results.mapM (resRun tmps)
      pure (if h : vs.size = 1 then vs[0] else .tuple vs) : Sem Value) := by
    unfold results
    congr 1
  have h1 : (fn.results.mapM (resRun tmps) : Sem (Array Value)) = List.toArray <$> fn.results.toList.mapM (resRun tmps) := by
    rw [← Array.toArray_toList (xs := fn.results), List.mapM_toArray]
  rw [h0, h1, map_eq_pure_bind, bind_assoc]
  congr 1
  funext vs
  rw [pure_bind]
  congr 1
  match vs with
  | [] => rfl
  | [v] => rfl
  | v :: u :: vs => rfl

theorem vresult_sound (hr : RR M w0 N fr ρ s a w) {fn : Func} {v : Value} (h : vresult s fn.results.toList = some v) : ∃ v', (results fn a.tmps).run P w = .ok v' w ∧ Rel ρ v v' := by
  rw [results_eq]
  unfold vresult at h
  split at h
  · rename_i r heq
    rw [heq]
    obtain ⟨v', h1, h2⟩ := vres_sound hr h
    refine ⟨v', ?_, h2⟩
    simp only [List.mapM_cons, List.mapM_nil, Sem.run_bind, h1, Result.andThen_ok, Sem.run_pure]
  · rename_i hne
    cases hv : vresL s fn.results.toList with
    | none => rw [hv] at h; cases h
    | some vs =>
      rw [hv] at h
      cases h
      obtain ⟨vs', h1, h2⟩ := vresL_sound hr hv
      refine ⟨.tuple vs'.toArray, ?_, Rel.tuple' h2.toA⟩
      have hlen : vs'.length = fn.results.toList.length := by
        rw [← h2.1]
        have : ∀ {l : List ResultVar} {vs : List Value}, vresL s l = some vs → vs.length = l.length := by
          intro l
          induction l with
          | nil => intro vs h; cases h; rfl
          | cons r l ih =>
            intro vs h
            unfold vresL at h
            cases h1 : vres s r with
            | none => rw [h1] at h; cases h
            | some v =>
              rw [h1, Option.bind_some] at h
              cases h2 : vresL s l with
              | none => rw [h2] at h; cases h
              | some us => rw [h2] at h; cases h; simp [ih h2]
        exact this hv
      simp only [Sem.run_bind, h1, Result.andThen_ok, Sem.run_pure]
      match vs', hlen with
      | [], _ => rfl
      | [u], hl =>
        obtain ⟨r, hr⟩ := List.length_eq_one_iff.1 hl.symm
        exact (hne r hr).elim
      | u :: x :: us, _ => rfl
end

/-- May the function be entered by a call? -/
noncomputable def goodF (g : FuncId) : Bool :=
  match P.funcs[g]? with
  | some fn => fn.body.isSome && !(fn.name == "runtime.NumGoroutine")
  | none => false

theorem callFunc_run {g : FuncId} (h : goodF g = true) (args : Array Value) (w : World) : (callFunc g args).run P w = .ok (.enter g args) w := by
  unfold goodF at h
  cases hf : P.funcs[g]? with
  | none => rw [hf] at h; cases h
  | some fn =>
    rw [hf] at h
    simp only [Bool.and_eq_true, Bool.not_eq_true'] at h
    have hb : fn.body.isNone = false := by
      cases hbb : fn.body with
      | none => rw [hbb] at h; cases h.1
      | some c => rfl
    simp only [callFunc, Sem.run_bind, run_program, Result.andThen_ok, hf, h.2, hb, Bool.false_eq_true, if_false, Sem.run_pure]

/-- A FUNCTION OF PLAIN VALUES: called with these in whatever world it returns that, and turns nothing that was there. -/
structure Pure (g : FuncId) (args : List Value) (v : Value) : Prop where
  good : goodF g = true
  arg : plainL args = true
  res : plain v = true
  calls : ∀ w, Calls P g args.toArray w (fun e w' => e = .returned v ∧ Below w.heap.size w w')

/-- How a function is entered: its slots. -/
def enter (args : List Value) : Nat → Value := fun k => args.getD k undef

theorem kept_below {w w' : World} (h : Kept (fun r => w.heap.size ≤ r) w w') : Below w.heap.size w w' :=
  ⟨h.os, h.tape, h.output, h.size, fun k hk => h.block k (by omega)⟩

theorem enter_rr {M : Nat → Prop} {N n : Nat} {ρ : Nat → Option (Nat × Nat)} {args args' : List Value} {h : Nat → Option Blk} {w : World} (ha : RelL ρ args args') (hN : args.length ≤ N) (hH : RH M ρ h w) (hf : ∀ m, n ≤ m → ρ m = none) :
    RR M w N (fun m => n ≤ m) ρ ⟨enter args, h, n⟩ { tmps := args'.toArray ++ Array.replicate (N - args'.toArray.size) undef, defers := [] } w := by
  have hl := ha.1
  refine ⟨by simp; omega, rfl, fun k _ => ?_, hH, hf, Kept.refl _ _⟩
  show Rel ρ (args.getD k undef) ((args'.toArray ++ Array.replicate (N - args'.toArray.size) undef).getD k undef)
  by_cases hk : k < args.length
  · have h1 : args.getD k undef = args[k] := by simp [hk]
    have h2 : (args'.toArray ++ Array.replicate (N - args'.toArray.size) undef).getD k undef = args'[k]'(by omega) := by
      simp [Array.getD_eq_getD_getElem?, Array.getElem?_append, show k < args'.length by omega]
    rw [h1, h2]
    exact ha.2 k _ _ (by simp [hk]) (by simp)
  · have h1 : args.getD k undef = undef := by simp [List.getD_eq_getElem?_getD, List.getElem?_eq_none (Nat.le_of_not_lt hk)]
    have h2 : (args'.toArray ++ Array.replicate (N - args'.toArray.size) undef).getD k undef = undef := by
      simp only [Array.getD_eq_getD_getElem?, Array.getElem?_append]
      rw [if_neg (by simp; omega)]
      by_cases h3 : k - args'.toArray.size < N - args'.toArray.size
      · simp only [Array.getElem?_replicate]; split <;> rfl
      · rw [Array.getElem?_eq_none (by simpa using h3)]; rfl
    rw [h1, h2]
    exact .plain rfl

/-- FROM THE BODY TO THE FUNCTION: plain values. -/
theorem pure_of {g N : Nat} {fn : Func} {c : Code} {args : List Value} {v : Value} (hf : P.funcs[g]? = some fn) (hb : fn.body = some c) (hn : fn.ntmps = N) (hg : goodF g = true) (hp : plainL args = true) (hN : args.length ≤ N) (hv : plain v = true)
    (h : VC (B := 0) N c (fun e s' => (e = .normal ∨ e = .ret) ∧ vresult s' fn.results.toList = some v) ⟨enter args, fun _ => none, 0⟩) : Pure g args v := by
  refine ⟨hg, hp, hv, fun w => ?_⟩
  refine calls_of_wp hf hb ?_
  rw [hn]
  have hrr := enter_rr (M := fun r => w.heap.size ≤ r) (N := N) (n := 0) (ρ := fun _ => none) (h := fun _ => none) (w := w) (RelL.refl_of_plain hp) hN ⟨fun _ _ h => (by cases h), fun _ _ _ _ _ _ _ _ h => (by cases h), fun r hr => hr⟩ (fun _ _ => rfl)
  refine wp_mono (h _ _ _ _ _ hrr) ?_
  rintro e a' w' ⟨ρ', s', h1, h2, h3, h4⟩
  obtain ⟨v', h5, h6⟩ := vresult_sound h2 h4
  rw [h6.eq_of_plain hv] at h5
  rcases h3 with rfl | rfl
  · exact ⟨h2.defers, v, h5, rfl, kept_below h2.kept⟩
  · exact ⟨h2.defers, v, h5, rfl, kept_below h2.kept⟩

theorem plainA_eq (c : Array Value) : plainA c = plainL c.toList := by cases c; rfl

/-- THE CALL of a function of plain values, as an operation. -/
theorem sp_pure {o : Oper} {m : Nat} {ev : Operand → Value} {h : Nat → Option Blk} {f : Operand} {args : Array Operand} {ats : Array TypeId} {g : FuncId} {v : Value}
    (ho : o.op = .call { callee := .value f, args := args, argTypes := ats }) (hf : ev f = .func (.func g) #[] #[]) (hp : Pure g (args.toList.map ev) v) : SpOk o m ev h [] (fun v' u => v' = v ∧ u = []) := by
  intro M ρ h' w a _ hev hH _
  have h1 : a.eval f = .func (.func g) #[] #[] := by
    have := hev f (by rw [ho]; simp [Op.operands, Call.operands])
    rw [hf] at this
    exact this.eq_of_plain rfl
  have h2 : args.map a.eval = args.map ev := by
    have hr := relA_map (ρ := ρ) (ev := ev) (a := a) (xs := args) (fun x hx => hev x (by rw [ho]; simp [Op.operands, Call.operands, hx]))
    exact Value.agg.inj ((Rel.agg' hr).eq_of_plain (by have := hp.arg; rw [← Array.toList_map] at this; rw [plain, plainA_eq]; exact this))
  unfold Oper.wp
  have hrun : (execOp a.eval o).run P w = .ok (.enter g (args.map ev)) w := by
    simp only [execOp, ho, resolve, h1, h2, Sem.run_bind, Deferred.ofValue, Sem.run_pure, Result.andThen_ok, invoke, Array.empty_append, Array.append_empty, callFunc_run hp.good]
  rw [hrun]
  have hc := hp.calls w
  rw [← Array.toList_map, Array.toArray_toList] at hc
  refine hc.mono ?_
  rintro e w' ⟨rfl, hb⟩
  refine ⟨v, v, [], ρ, ⟨rfl, rfl⟩, rfl, Ext.refl _, .plain hp.res, ⟨fun k b hk => ?_, hH.inj, fun r hr => hH.new r (Nat.le_trans hb.size hr)⟩, ⟨hb.os, hb.tape, hb.output, hb.size, fun r hr => hb.block r ?_⟩, fun x hx => (by cases hx), fun k hk _ => hk⟩
  · obtain ⟨r, o', h3, h4, h5⟩ := hH.blk k b hk
    exact ⟨r, o', h3, by rw [hb.block r (hH.lt hk h3)]; exact h4, h5⟩
  · rcases Nat.lt_or_ge r w.heap.size with hlt | hge
    · exact hlt
    · exact absurd (hH.new r hge) hr

end Go.Proofs.Ytdfkcijholopoaa.Vm
namespace Go.Proofs.Ytdfkcijholopoaa.Vm
open Go Go.RowKit
set_option linter.unusedSimpArgs false

/-- k v, the value's head written out. -/
def force {α : Type} (v : Value) (k : Value → α) : α :=
  match v with
  | .bool b => k (.bool b)
  | .int i n => k (.int i n)
  | .float a b => k (.float a b)
  | .complex a b c => k (.complex a b c)
  | .string s => k (.string s)
  | .pointer a => k (.pointer a)
  | .slice a l c => k (.slice a l c)
  | .map r => k (.map r)
  | .chan r => k (.chan r)
  | .func f a c => k (.func f a c)
  | .nilFunc => k .nilFunc
  | .iface t v => k (.iface t v)
  | .nilIface => k .nilIface
  | .agg c => k (.agg c)
  | .tuple c => k (.tuple c)
theorem force_eq {α : Type} (v : Value) (k : Value → α) : force v k = k v := by cases v <;> rfl

def forceL {α : Type} (l : List Value) (k : List Value → α) : α :=
  match l with
  | [] => k []
  | v :: l => force v fun v => forceL l fun l => k (v :: l)
theorem forceL_eq {α : Type} (l : List Value) : ∀ k : List Value → α, forceL l k = k l := by
  induction l with
  | nil => intro k; rfl
  | cons v l ih => intro k; simp only [forceL, force_eq, ih]
/-- The types whose cells are written out one by one. -/
def small (t : Nat) : Bool :=
  match t with
  | 32 => false
  | 116 => false
  | _ => true
def forceV {α : Type} (b : Bool) (v : Value) (k : Value → α) : α :=
  match b with
  | true => match v with
    | .agg c => forceL c.toList fun l => k (.agg l.toArray)
    | v => force v k
  | false => force v k
theorem forceV_eq {α : Type} (b : Bool) (v : Value) (k : Value → α) : forceV b v k = k v := by
  cases b with
  | false => exact force_eq v k
  | true => cases v <;> first | rfl | (simp only [forceV, forceL_eq, Array.toArray_toList]) | exact force_eq _ k
def forceB {α : Type} (b : Blk) (k : Blk → α) : α :=
  match b with
  | .cells c t own => match small t with
    | true => forceL c fun c => k (.cells c t own)
    | false => k (.cells c t own)
  | .obj o => k (.obj o)
theorem forceB_eq {α : Type} (b : Blk) (k : Blk → α) : forceB b k = k b := by
  cases b with
  | cells c t own => simp only [forceB, forceL_eq]; split <;> rfl
  | obj o => rfl
def opSmall : Op → Bool
  | .build t _ => small t
  | .load t _ => small t
  | _ => false

def evT (t : Nat → Value) : Operand → Value
  | .tmp k => t k
  | .const v => v
  | .global g => .pointer (some ⟨g, 0, none⟩)
  | .func f => .func (.func f) #[] #[]
theorem evT_eq (t : Nat → Value) (h : Nat → Option Blk) (n : Nat) : evT t = St.ev ⟨t, h, n⟩ := by funext x; cases x <;> rfl

def putT (t : Nat → Value) (d : Option Nat) (v : Value) : Nat → Value :=
  match d with
  | some k => upd t k v
  | none => t
theorem app_putT (t : Nat → Value) (h : Nat → Option Blk) (n : Nat) (d : Option Nat) (v : Value) (u : List (Nat × Blk)) : (⟨t, h, n⟩ : St).app d v u = ⟨putT t d v, updL h u, bump n u⟩ := by cases d <;> rfl

/-- A number written out (z: it may hang on a variable: left as it is). -/
def forceN {α : Type} (z : Bool) (n : Nat) (k : Nat → α) : α :=
  match z with
  | true => k n
  | false => match n with
    | 0 => k 0
    | m + 1 => k (m + 1)
theorem forceN_eq {α : Type} (z : Bool) (n : Nat) (k : Nat → α) : forceN z n k = k n := by
  cases z
  · cases n <;> rfl
  · rfl

/-- The run over core operations (no other may come). -/
def go (z : Bool) (ops : Array Oper) (base : Nat) : Nat → List Oper → (Nat → Value) → (Nat → Option Blk) → Nat → ((Nat → Value) → (Nat → Option Blk) → Nat → Prop) → Prop
  | _, [], t, h, n, K => K t h n
  | i, o :: rest, t, h, n, K =>
    match wantV ops o t with
    | some true => match vex (evT t) h o.op with
      | some (.val v) => forceV (opSmall o.op) v fun v => match o.dst with
        | some d => go z ops base (i + 1) rest (upd t d v) h n K
        | none => go z ops base (i + 1) rest t h n K
      | some (.rd _ v) => forceV (opSmall o.op) v fun v => match o.dst with
        | some d => go z ops base (i + 1) rest (upd t d v) h n K
        | none => go z ops base (i + 1) rest t h n K
      | some (.new b p) => forceB b fun b => forceN z (base + i) fun m => forceN z (max n (m + 1)) fun n => force (p m) fun v => match o.dst with
        | some d => go z ops base (i + 1) rest (upd t d v) (upd h m (some b)) n K
        | none => go z ops base (i + 1) rest t (upd h m (some b)) n K
      | some (.set k b) => forceB b fun b => forceN z (max n (k + 1)) fun n => match o.dst with
        | some d => go z ops base (i + 1) rest (upd t d undef) (upd h k (some b)) n K
        | none => go z ops base (i + 1) rest t (upd h k (some b)) n K
      | none => False
    | some false => match o.dst with
      | some d => go z ops base (i + 1) rest (upd t d undef) h n K
      | none => go z ops base (i + 1) rest t h n K
    | none => False

/-- One step of it. -/
def goK (ops : Array Oper) (base i : Nat) (o : Oper) (t : Nat → Value) (h : Nat → Option Blk) (n : Nat) (k : (Nat → Value) → (Nat → Option Blk) → Nat → Prop) : Prop :=
  match wantV ops o t with
  | some true => match vex (evT t) h o.op with
    | some (.val v) => k (putT t o.dst v) h n
    | some (.rd _ v) => k (putT t o.dst v) h n
    | some (.new b p) => k (putT t o.dst (p (base + i))) (upd h (base + i) (some b)) (max n (base + i + 1))
    | some (.set m b) => k (putT t o.dst undef) (upd h m (some b)) (max n (m + 1))
    | none => False
  | some false => k (putT t o.dst undef) h n
  | none => False

theorem go_cons (z : Bool) (ops : Array Oper) (base i : Nat) (o : Oper) (rest : List Oper) (t : Nat → Value) (h : Nat → Option Blk) (n : Nat) (K : (Nat → Value) → (Nat → Option Blk) → Nat → Prop) :
    go z ops base i (o :: rest) t h n K = goK ops base i o t h n fun t h n => go z ops base (i + 1) rest t h n K := by
  unfold goK
  rw [go]
  simp only [forceV_eq, forceB_eq, forceN_eq, force_eq]
  cases o.dst <;> rfl

theorem vgo_step {ops : Array Oper} {base i : Nat} {o : Oper} {rest : List Oper} {t : Nat → Value} {h : Nat → Option Blk} {n : Nat} {K : St → Prop} {k : (Nat → Value) → (Nat → Option Blk) → Nat → Prop}
    (hg : goK ops base i o t h n k) (hk : ∀ t h n, k t h n → vgo ops base (i + 1) rest ⟨t, h, n⟩ K) : vgo ops base i (o :: rest) ⟨t, h, n⟩ K := by
  unfold goK at hg
  cases hw : wantV ops o t with
  | none => rw [hw] at hg; exact hg.elim
  | some b =>
  cases b with
  | true =>
    rw [hw] at hg
    simp only at hg
    cases he : vex (evT t) h o.op with
    | none => rw [he] at hg; exact hg.elim
    | some ef =>
      rw [he] at hg
      rw [evT_eq t h n] at he
      unfold vgo
      simp only [hw, he]
      cases ef <;> (simp only at hg ⊢; rw [app_putT]; exact hk _ _ _ hg)
  | false =>
    rw [hw] at hg
    unfold vgo
    simp only [hw]
    simp only at hg
    have := hk _ _ _ hg
    cases hd : o.dst <;> (rw [hd] at this; exact this)

/-- The first m operations, then the rest. -/
theorem run_n {z : Bool} {ops : Array Oper} {base : Nat} {K : St → Prop} (m : Nat) : ∀ {i : Nat} {l : List Oper} {t : Nat → Value} {h : Nat → Option Blk} {n : Nat},
    (∀ K' : (Nat → Value) → (Nat → Option Blk) → Nat → Prop, (∀ t h n, vgo ops base (i + m) (l.drop m) ⟨t, h, n⟩ K → K' t h n) → go z ops base i (l.take m) t h n K') → m ≤ l.length → vgo ops base i l ⟨t, h, n⟩ K := by
  induction m with
  | zero =>
    intro i l t h n H _
    exact H (fun t h n => vgo ops base (i + 0) (l.drop 0) ⟨t, h, n⟩ K) fun _ _ _ h => h
  | succ m ih =>
    intro i l t h n H hm
    cases l with
    | nil => simp at hm
    | cons o l =>
      have h0 := H (fun t h n => vgo ops base (i + (m + 1)) (l.drop m) ⟨t, h, n⟩ K) fun _ _ _ h => h
      rw [List.take_succ_cons, go_cons] at h0
      refine vgo_step h0 fun t h n hg => ih (fun K' hK' => ?_) (by simpa using hm)
      have key : ∀ (l : List Oper) (i : Nat) (t : Nat → Value) (h : Nat → Option Blk) (n : Nat) (K1 K2 : (Nat → Value) → (Nat → Option Blk) → Nat → Prop), (∀ t h n, K1 t h n → K2 t h n) → go z ops base i l t h n K1 → go z ops base i l t h n K2 := by
        intro l
        induction l with
        | nil => intro i t h n K1 K2 hk hg; exact hk _ _ _ hg
        | cons o l ih =>
          intro i t h n K1 K2 hk hg
          rw [go_cons] at hg ⊢
          unfold goK at hg ⊢
          split
          · rename_i hw
            rw [hw] at hg
            simp only at hg
            split
            all_goals (rename_i he; rw [he] at hg; first | exact ih _ _ _ _ _ _ hk hg | exact hg)
          · rename_i hw
            rw [hw] at hg
            exact ih _ _ _ _ _ _ hk hg
          · rename_i hw
            rw [hw] at hg
            exact hg
      exact key _ _ _ _ _ _ _ (fun t h n hv => hK' t h n (by rw [show i + 1 + m = i + (m + 1) by omega]; exact hv)) hg

/-- All that is left of the region. -/
theorem run_end {z : Bool} {ops : Array Oper} {base : Nat} {K : St → Prop} {i : Nat} {l : List Oper} {t : Nat → Value} {h : Nat → Option Blk} {n : Nat}
    (H : ∀ K' : (Nat → Value) → (Nat → Option Blk) → Nat → Prop, (∀ t h n, K ⟨t, h, n⟩ → K' t h n) → go z ops base i l t h n K') : vgo ops base i l ⟨t, h, n⟩ K := by
  refine run_n (z := z) l.length (fun K' hK' => ?_) (Nat.le_refl _)
  rw [List.take_length]
  refine H K' fun t h n hk => hK' t h n ?_
  rw [List.drop_length]
  exact hk

/-- A region without a call. -/
theorem vc_go {B N id : Nat} {l : List Oper} {Q : Exit → St → Prop} {t : Nat → Value} {h : Nat → Option Blk} {n : Nat} (hok : l.all (okOp N) = true)
    (hg : ∀ K : (Nat → Value) → (Nat → Option Blk) → Nat → Prop, (∀ t h n, Q .normal ⟨t, h, n⟩ → K t h n) → go false l.toArray n 0 l t h n K) : VC (B := B) N (.region id l.toArray false) Q ⟨t, h, n⟩ :=
  vc_region hok fun _ hK => run_end (z := false) fun K' hK' => hg K' fun t h n hq => hK' t h n (hK _ hq)
/-- Where the names hang on a variable. -/
theorem vc_goS {B N id : Nat} {l : List Oper} {Q : Exit → St → Prop} {t : Nat → Value} {h : Nat → Option Blk} {n : Nat} (hok : l.all (okOp N) = true)
    (hg : ∀ K : (Nat → Value) → (Nat → Option Blk) → Nat → Prop, (∀ t h n, Q .normal ⟨t, h, n⟩ → K t h n) → go true l.toArray n 0 l t h n K) : VC (B := B) N (.region id l.toArray false) Q ⟨t, h, n⟩ :=
  vc_region hok fun _ hK => run_end (z := true) fun K' hK' => hg K' fun t h n hq => hK' t h n (hK _ hq)
/-- A region with calls. -/
theorem vc_reg {B N id : Nat} {l : List Oper} {Q : Exit → St → Prop} {t : Nat → Value} {h : Nat → Option Blk} {n : Nat} (hok : l.all (okOp N) = true)
    (hg : ∀ K : St → Prop, (∀ t h n, Q .normal ⟨t, h, n⟩ → K ⟨t, h, n⟩) → vgo l.toArray n 0 l ⟨t, h, n⟩ K) : VC (B := B) N (.region id l.toArray false) Q ⟨t, h, n⟩ :=
  vc_region hok fun K hK => hg K fun _ _ _ hq => hK _ hq

theorem run_op {ops : Array Oper} {base i : Nat} {o : Oper} {rest : List Oper} {t : Nat → Value} {h : Nat → Option Blk} {n : Nat} {K : St → Prop} {v : Value} (he : vex (evT t) h o.op = some (.val v)) (hw : wantV ops o t = some true)
    (k : vgo ops base (i + 1) rest ⟨putT t o.dst v, h, n⟩ K) : vgo ops base i (o :: rest) ⟨t, h, n⟩ K := by
  refine vgo_step (k := fun t' h' n' => t' = putT t o.dst v ∧ h' = h ∧ n' = n) ?_ ?_
  · unfold goK; rw [hw, he]; exact ⟨rfl, rfl, rfl⟩
  · rintro _ _ _ ⟨rfl, rfl, rfl⟩; exact k
theorem run_rd {ops : Array Oper} {base i : Nat} {o : Oper} {rest : List Oper} {t : Nat → Value} {h : Nat → Option Blk} {n : Nat} {K : St → Prop} {m : Nat} {v : Value} (he : vex (evT t) h o.op = some (.rd m v)) (hw : wantV ops o t = some true)
    (k : vgo ops base (i + 1) rest ⟨putT t o.dst v, h, n⟩ K) : vgo ops base i (o :: rest) ⟨t, h, n⟩ K := by
  refine vgo_step (k := fun t' h' n' => t' = putT t o.dst v ∧ h' = h ∧ n' = n) ?_ ?_
  · unfold goK; rw [hw, he]; exact ⟨rfl, rfl, rfl⟩
  · rintro _ _ _ ⟨rfl, rfl, rfl⟩; exact k
theorem run_set {ops : Array Oper} {base i : Nat} {o : Oper} {rest : List Oper} {t : Nat → Value} {h : Nat → Option Blk} {n : Nat} {K : St → Prop} {m : Nat} {b : Blk} (he : vex (evT t) h o.op = some (.set m b)) (hw : wantV ops o t = some true) (hm : m + 1 ≤ n) (hd : o.dst = none)
    (k : vgo ops base (i + 1) rest ⟨t, upd h m (some b), n⟩ K) : vgo ops base i (o :: rest) ⟨t, h, n⟩ K := by
  refine vgo_step (k := fun t' h' n' => t' = t ∧ h' = upd h m (some b) ∧ n' = n) ?_ ?_
  · unfold goK; rw [hw, he, hd]; exact ⟨rfl, rfl, by omega⟩
  · rintro _ _ _ ⟨rfl, rfl, rfl⟩; exact k
/-- A call of a function of plain values. -/
theorem run_call {ops : Array Oper} {base i : Nat} {o : Oper} {rest : List Oper} {t : Nat → Value} {h : Nat → Option Blk} {n : Nat} {K : St → Prop} {f : Operand} {args : Array Operand} {ats : Array TypeId} {g : FuncId} {v : Value} {vs : List Value}
    (hp : Pure g vs v) (ho : o.op = .call { callee := .value f, args := args, argTypes := ats }) (ha : args.toList.map (evT t) = vs) (hw : wantV ops o t = some true) (hf : evT t f = .func (.func g) #[] #[])
    (k : vgo ops base (i + 1) rest ⟨putT t o.dst v, h, n⟩ K) : vgo ops base i (o :: rest) ⟨t, h, n⟩ K := by
  subst ha
  rw [evT_eq t h n] at hp hf
  have hv : vex (⟨t, h, n⟩ : St).ev h o.op = none := by rw [ho]; rfl
  have hk : kd o.op = .sp := by rw [ho]; rfl
  unfold vgo
  simp only [hw, hv]
  refine ⟨hk, [], _, sp_pure ho hf hp, ⟨v, [], rfl, rfl⟩, ?_⟩
  rintro v' u ⟨rfl, rfl⟩
  rw [app_putT]
  exact k

theorem upd_same' {α : Type} (f : Nat → α) {k : Nat} {v : α} (h : f k = v) : upd f k v = f := by
  funext i
  by_cases e : i = k
  · subst e; rw [upd_same, h]
  · rw [upd_ne _ _ e]
theorem vgo_case {ops : Array Oper} {base i : Nat} {l : List Oper} {t : Nat → Value} {h : Nat → Option Blk} {n : Nat} {K : St → Prop} (d : Nat) {b : Bool} (hd : t d = .bool b)
    (h1 : b = true → vgo ops base i l ⟨upd t d (.bool true), h, n⟩ K) (h2 : b = false → vgo ops base i l ⟨upd t d (.bool false), h, n⟩ K) : vgo ops base i l ⟨t, h, n⟩ K := by
  cases b with
  | true => have := h1 rfl; rwa [upd_same' t hd] at this
  | false => have := h2 rfl; rwa [upd_same' t hd] at this

end Go.Proofs.Ytdfkcijholopoaa.Vm
