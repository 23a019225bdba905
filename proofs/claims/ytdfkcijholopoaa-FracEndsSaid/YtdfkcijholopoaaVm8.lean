/- One step of a region, over virtual states: core operations and special ones (calls and their like) in one word. -/
import Derived.Test.YtdfkcijholopoaaVm7
namespace Go.Proofs.Ytdfkcijholopoaa.Vm
open Go
set_option linter.unusedSimpArgs false

def Ef.rds : Ef → List Nat
  | .val _ => []
  | .rd m _ => [m]
  | .new _ _ => []
  | .set m _ => [m]
def Ef.out (m : Nat) : Ef → Value × List (Nat × Blk)
  | .val v => (v, [])
  | .rd _ v => (v, [])
  | .new b p => (p m, [(m, b)])
  | .set k b => (undef, [(k, b)])

def updL (h : Nat → Option Blk) : List (Nat × Blk) → Nat → Option Blk
  | [] => h
  | (m, b) :: u => updL (upd h m (some b)) u

def St.put (s : St) (d : Option Nat) (v : Value) : St :=
  match d with
  | some k => { s with t := upd s.t k v }
  | none => s
/-- The first name that is free behind an operation's updates. -/
def bump (n : Nat) : List (Nat × Blk) → Nat
  | [] => n
  | (m, _) :: u => bump (max n (m + 1)) u
def St.app (s : St) (d : Option Nat) (v : Value) (u : List (Nat × Blk)) : St := { s.put d v with h := updL s.h u, n := bump s.n u }
theorem bump_max (u : List (Nat × Blk)) : ∀ n k, bump (max n k) u = max (bump n u) k := by
  induction u with
  | nil => intro n k; rfl
  | cons x u ih =>
    intro n k
    obtain ⟨m, b⟩ := x
    simp only [bump]
    rw [show max (max n k) (m + 1) = max (max n (m + 1)) k by omega, ih]
theorem bump_comm (u u' : List (Nat × Blk)) : ∀ n, bump (bump n u) u' = bump (bump n u') u := by
  induction u with
  | nil => intro n; rfl
  | cons x u ih =>
    intro n
    obtain ⟨m, b⟩ := x
    simp only [bump]
    rw [ih, bump_max]
theorem le_bump (u : List (Nat × Blk)) : ∀ n, n ≤ bump n u := by
  induction u with
  | nil => intro n; exact Nat.le_refl _
  | cons x u ih => intro n; obtain ⟨m, b⟩ := x; simp only [bump]; have := ih (max n (m + 1)); omega
theorem lt_bump {u : List (Nat × Blk)} : ∀ {n : Nat} {x : Nat × Blk}, x ∈ u → x.1 < bump n u := by
  induction u with
  | nil => intro n x h; cases h
  | cons y u ih =>
    intro n x h
    obtain ⟨m, b⟩ := y
    simp only [bump]
    rcases List.mem_cons.1 h with rfl | h
    · have := le_bump u (max n (m + 1)); simp only; omega
    · exact ih h
theorem bump_le {u : List (Nat × Blk)} : ∀ {n k : Nat}, n ≤ k → (∀ x ∈ u, x.1 < k) → bump n u ≤ k := by
  induction u with
  | nil => intro n k h _; exact h
  | cons y u ih =>
    intro n k h hx
    obtain ⟨m, b⟩ := y
    simp only [bump]
    have := hx (m, b) (by simp)
    exact ih (by simp only at this; omega) fun x hx' => hx x (by simp [hx'])

theorem updL_other {u : List (Nat × Blk)} : ∀ {h : Nat → Option Blk} {k : Nat}, (∀ x ∈ u, x.1 ≠ k) → updL h u k = h k := by
  induction u with
  | nil => intro h k _; rfl
  | cons x u ih =>
    intro h k hx
    obtain ⟨m, b⟩ := x
    simp only [updL]
    rw [ih fun y hy => hx y (by simp [hy]), upd_ne _ _ fun e => hx (m, b) (by simp) e.symm]
theorem updL_congr {u : List (Nat × Blk)} : ∀ {h h' : Nat → Option Blk} {k : Nat}, h k = h' k → updL h u k = updL h' u k := by
  induction u with
  | nil => intro h h' k e; exact e
  | cons x u ih =>
    intro h h' k e
    obtain ⟨m, b⟩ := x
    simp only [updL]
    apply ih
    by_cases hk : k = m
    · subst hk; rw [upd_same, upd_same]
    · rw [upd_ne _ _ hk, upd_ne _ _ hk, e]
theorem updL_comm (h : Nat → Option Blk) (u u' : List (Nat × Blk)) (hd : ∀ x ∈ u, ∀ y ∈ u', x.1 ≠ y.1) : updL (updL h u) u' = updL (updL h u') u := by
  funext k
  by_cases hk : ∃ y ∈ u', y.1 = k
  · obtain ⟨y, hy, rfl⟩ := hk
    rw [updL_other (u := u) (h := updL h u') fun x hx => hd x hx y hy]
    exact updL_congr (updL_other fun x hx => hd x hx y hy)
  · rw [updL_other (u := u') (h := updL h u) fun y hy e => hk ⟨y, hy, e⟩]
    exact (updL_congr (updL_other fun y hy e => hk ⟨y, hy, e⟩)).symm

/-- 'vex' looks at nothing but its operands, and the block that it says. -/
theorem vex_local {ev ev' : Operand → Value} {h h' : Nat → Option Blk} {op : Op} {ef : Ef} (he : ∀ x ∈ op.operands, ev' x = ev x) (hh : ∀ m ∈ ef.rds, h' m = h m) (hv : vex ev h op = some ef) : vex ev' h' op = some ef := by
  have pairs : ∀ ps : Array (Nat × Operand), (∀ x ∈ (ps.toList.map (·.2)), ev' x = ev x) → (ps.toList.map fun (i, x) => (i, ev' x)) = (ps.toList.map fun (i, x) => (i, ev x)) := by
    intro ps hp
    apply List.map_congr_left
    intro p hm
    obtain ⟨i, x⟩ := p
    simp only [hp x (List.mem_map.2 ⟨(i, x), hm, rfl⟩)]
  have omap : ∀ q : Option Operand, (∀ x ∈ q.toArray, ev' x = ev x) → q.map ev' = q.map ev := by
    intro q hq
    cases q with
    | none => rfl
    | some x => simp only [Option.map_some, hq x (by simp)]
  cases op
  case call c =>
    simp only [Op.operands] at he
    unfold vex at hv ⊢
    split at hv <;> try (first | (cases hv; done) | contradiction)
    · rename_i x t heq
      cases heq
      rw [he x (by simp [Call.operands])]
      exact hv
    · rename_i x t heq
      cases heq
      rw [he x (by simp [Call.operands])]
      exact hv
    · rename_i x y ts heq
      cases heq
      rw [he x (by simp [Call.operands]), he y (by simp [Call.operands])]
      exact hv
  all_goals simp only [Op.operands] at he
  all_goals simp only [vex] at hv ⊢
  all_goals try (first | exact hv | (rw [he _ (by simp)]; exact hv) | (rw [he _ (by simp), he _ (by simp)]; exact hv))
  case pick c a b => rw [he c (by simp), he a (by simp), he b (by simp)]; exact hv
  case build t ps => rw [pairs ps fun x hx => he x (by simpa using hx)]; exact hv
  case buildSlice t n ps => rw [pairs ps fun x hx => he x (by simpa using hx)]; exact hv
  case load t x =>
    rw [he x (by simp)]
    split at hv
    · rename_i m k ag z hx ht
      split at hv
      · rename_i c e own hm
        cases hp : partAt ag z.length c k with
        | none => rw [hp] at hv; cases hv
        | some v =>
          rw [hp] at hv
          cases hv
          simp only [Ef.rds, List.mem_singleton, forall_eq] at hh
          simp only [hh, hm, hp, Option.map_some]
      · cases hv
    · cases hv
  case store t x y =>
    rw [he x (by simp), he y (by simp)]
    split at hv
    · rename_i m k ag z hx ht
      split at hv
      · rename_i c e hm
        cases hp : setAt z.length c k (ev y) with
        | none => rw [hp] at hv; cases hv
        | some v =>
          rw [hp] at hv
          cases hv
          simp only [Ef.rds, List.mem_singleton, forall_eq] at hh
          simp only [hh, hm, hp, Option.map_some]
      · cases hv
    · cases hv
  case unOp u t x =>
    cases u <;> simp only [vex] at hv ⊢ <;> first | (rw [he x (by simp)]; exact hv) | exact hv
  case makeFunc fn first captured =>
    have h1 : first.toList.map ev' = first.toList.map ev := List.map_congr_left fun x hx => he x (by simp at hx; simp [hx])
    have h2 : captured.toList.map ev' = captured.toList.map ev := List.map_congr_left fun x hx => he x (by simp at hx; simp [hx])
    rw [h1, h2]; exact hv
  case slice t x lo hi mx =>
    rw [he x (by simp), omap lo fun y hy => he y (by simp [hy]), omap hi fun y hy => he y (by simp [hy]), omap mx fun y hy => he y (by simp [hy])]
    exact hv
/-- AN OPERATION, WHATEVER KIND: in each virtual state that agrees on its operands and on the blocks 'rd', it yields one of the values and updates of 'Out'; 'm': the one name that it may take. -/
def SpOk (o : Oper) (m : Nat) (ev : Operand → Value) (h : Nat → Option Blk) (rd : List Nat) (Out : Value → List (Nat × Blk) → Prop) : Prop :=
  ∀ (M : Nat → Prop) (ρ : Nat → Option (Nat × Nat)) (h' : Nat → Option Blk) (w : World) (a : Act), (∀ k ∈ rd, h' k = h k) → (∀ x ∈ o.op.operands, Rel ρ (ev x) (a.eval x)) → RH M ρ h' w → ρ m = none →
    o.wp P a w (fun a' w' => ∃ v v' u ρ', Out v u ∧ a' = a.put o.dst v' ∧ Ext ρ ρ' ∧ Rel ρ' v v' ∧ RH M ρ' (updL h' u) w' ∧ Kept M w w' ∧ (∀ x ∈ u, x.1 = m ∨ ρ x.1 ≠ none) ∧ ∀ k, ρ k = none → k ∉ u.map (·.1) → ρ' k = none) (fun _ _ _ => False)

theorem RH.lt {M : Nat → Prop} {ρ : Nat → Option (Nat × Nat)} {h : Nat → Option Blk} {w : World} (hH : RH M ρ h w) {m : Nat} {b : Blk} (hm : h m = some b) {r o : Nat} (hr : ρ m = some (r, o)) : r < w.heap.size := by
  obtain ⟨r', o', h1, h2, _⟩ := hH.blk m b hm
  rw [hr] at h1
  cases h1
  have : ∃ x, w.heap[r]? = some x := by
    cases b with
    | cells c t own =>
      cases own with
      | true => obtain ⟨c', h3, _⟩ := h2; exact ⟨_, h3⟩
      | false => obtain ⟨c', t', fz, h3, _⟩ := h2; exact ⟨_, h3⟩
    | obj ob => exact ⟨_, h2.1⟩
  obtain ⟨x, hx⟩ := this
  exact (Array.getElem?_eq_some_iff.1 hx).1

theorem RH.alloc {M : Nat → Prop} {ρ : Nat → Option (Nat × Nat)} {h : Nat → Option Blk} {w : World} (hH : RH M ρ h w) {m : Nat} (hm : ρ m = none) {b : Blk} {ob : Obj} (hb : RObj (upd ρ m (some (w.heap.size, 0))) b 0 (some ob)) :
    RH M (upd ρ m (some (w.heap.size, 0))) (upd h m (some b)) (w.alloc ob) := by
  have hx := Ext.upd hm (some (w.heap.size, 0))
  have hg : ∀ r, r < w.heap.size → (w.alloc ob).heap[r]? = w.heap[r]? := fun r hr => by
    show (w.heap.push ob)[r]? = _
    rw [Array.getElem?_push, if_neg (by omega)]
  have hn : (w.alloc ob).heap[w.heap.size]? = some ob := by
    show (w.heap.push ob)[w.heap.size]? = _
    simp
  refine ⟨fun k c hk => ?_, fun k k' c c' r o r' o' hk hk' hne hown h1 h2 => ?_, fun r hr => hH.new r (by rw [World.size_alloc] at hr; omega)⟩
  · by_cases e : k = m
    · subst e
      rw [upd_same] at hk
      cases hk
      exact ⟨w.heap.size, 0, upd_same _ _ _, by rw [hn]; exact hb, fun _ => hH.new _ (Nat.le_refl _)⟩
    · rw [upd_ne _ _ e] at hk
      obtain ⟨r, o, h1, h2, h3⟩ := hH.blk k c hk
      exact ⟨r, o, hx _ _ h1, by rw [hg r (hH.lt hk h1)]; exact h2.ext hx, h3⟩
  · by_cases e : k = m
    · subst e
      rw [upd_same] at h1
      cases h1
      rw [upd_ne _ _ (Ne.symm hne)] at hk' h2
      have := hH.lt hk' h2
      omega
    · rw [upd_ne _ _ e] at hk h1
      by_cases e' : k' = m
      · subst e'
        rw [upd_same] at h2
        cases h2
        have := hH.lt hk h1
        omega
      · rw [upd_ne _ _ e'] at hk' h2
        exact hH.inj k k' c c' r o r' o' hk hk' hne hown h1 h2

theorem Kept.alloc {M : Nat → Prop} {w : World} (hn : ∀ r, w.heap.size ≤ r → M r) (ob : Obj) : Kept M w (w.alloc ob) :=
  ⟨rfl, rfl, rfl, by simp, fun r hr => by
    show (w.heap.push ob)[r]? = _
    rw [Array.getElem?_push, if_neg fun e => hr (hn r (by omega))]⟩

theorem Kept.setRow {M : Nat → Prop} {w : World} {r : Nat} (hr : M r) (c : Array Value) : Kept M w (w.setRow r c) :=
  ⟨rfl, rfl, rfl, by simp [World.setRow], fun k hk => setRow_other w r k c fun e => hk (e ▸ hr)⟩

theorem RH.setRow {M : Nat → Prop} {ρ : Nat → Option (Nat × Nat)} {h : Nat → Option Blk} {w : World} (hH : RH M ρ h w) {m r : Nat} {b b0 : Blk} (hm : h m = some b0) (h0 : b0.own = true) (hr : ρ m = some (r, 0)) {c : Array Value}
    (hrow : RObj ρ b 0 (w.setRow r c).heap[r]?) : RH M ρ (upd h m (some b)) (w.setRow r c) := by
  have hM : M r := by
    obtain ⟨r', o', h1, _, h3⟩ := hH.blk m b0 hm
    rw [hr] at h1; cases h1
    exact h3 h0
  refine ⟨fun k d hk => ?_, fun k k' d d' r1 o1 r2 o2 hk hk' hne hown h1 h2 => ?_, fun q hq => hH.new q (by simpa [World.setRow] using hq)⟩
  · by_cases e : k = m
    · subst e
      rw [upd_same] at hk
      cases hk
      exact ⟨r, 0, hr, hrow, fun _ => hM⟩
    · rw [upd_ne _ _ e] at hk
      obtain ⟨r', o', h1, h2, h3⟩ := hH.blk k d hk
      have hne : r' ≠ r := fun e' => hH.inj m k b0 d r 0 r' o' hm hk (Ne.symm e) h0 hr h1 e'.symm
      exact ⟨r', o', h1, by rw [setRow_other w r r' c hne]; exact h2, h3⟩
  · by_cases e : k = m
    · subst e
      rw [hr] at h1
      cases h1
      rw [upd_ne _ _ (Ne.symm hne)] at hk'
      exact hH.inj k k' b0 d' r 0 r2 o2 hm hk' hne h0 hr h2
    · rw [upd_ne _ _ e] at hk
      by_cases e' : k' = m
      · subst e'
        rw [hr] at h2
        cases h2
        exact fun e2 => hH.inj k' k b0 d r 0 r1 o1 hm hk (Ne.symm hne) h0 hr h1 e2.symm
      · rw [upd_ne _ _ e'] at hk'
        exact hH.inj k k' d d' r1 o1 r2 o2 hk hk' hne hown h1 h2

/-- A core operation is one. -/
theorem sp_of_vex {o : Oper} {m : Nat} {ev : Operand → Value} {h : Nat → Option Blk} {ef : Ef} (hv : vex ev h o.op = some ef) :
    SpOk o m ev h ef.rds (fun v u => v = (ef.out m).1 ∧ u = (ef.out m).2) := by
  intro M ρ h' w a hh hev hH hm
  have hv' : vex ev h' o.op = some ef := vex_local (fun _ _ => rfl) hh hv
  have hs := vex_sound (M := M) (ρ := ρ) (h := h') (w := w) (a := a) (ev := ev) hev hH hv'
  cases ef with
  | val v =>
    obtain ⟨v', h1, h2⟩ := hs
    unfold Oper.wp
    rw [h1]
    exact ⟨v, v', [], ρ, ⟨rfl, rfl⟩, rfl, Ext.refl _, h2, hH, Kept.refl _ _, fun x hx => (by cases hx), fun k hk _ => hk⟩
  | rd k v =>
    obtain ⟨v', h1, h2⟩ := hs
    unfold Oper.wp
    rw [h1]
    exact ⟨v, v', [], ρ, ⟨rfl, rfl⟩, rfl, Ext.refl _, h2, hH, Kept.refl _ _, fun x hx => (by cases hx), fun k hk _ => hk⟩
  | new b p =>
    obtain ⟨_, v', ob, h1, h2⟩ := hs
    unfold Oper.wp
    rw [h1]
    obtain ⟨h3, h4⟩ := h2 (upd ρ m (some (w.heap.size, 0))) m (Ext.upd hm _) (upd_same _ _ _)
    exact ⟨p m, v', [(m, b)], _, ⟨rfl, rfl⟩, rfl, Ext.upd hm _, h3, hH.alloc hm h4, Kept.alloc hH.new ob, fun x hx => (by simp at hx; exact .inl (by rw [hx])), fun k hk hne => by rw [upd_ne _ _ (by simpa using hne)]; exact hk⟩
  | set k b =>
    obtain ⟨_, ⟨b0, h2, h3⟩, r, c', h4, h5, _, h7, h8⟩ := hs
    unfold Oper.wp
    rw [h7]
    exact ⟨undef, undef, [(k, b)], ρ, ⟨rfl, rfl⟩, rfl, Ext.refl _, .plain rfl, hH.setRow h2 h3 h4 h8, Kept.setRow h5 c', fun x hx => (by simp at hx; exact .inr (by rw [hx, h4]; simp)), fun k hk _ => hk⟩

theorem SpOk.local {o : Oper} {m : Nat} {ev ev' : Operand → Value} {h h' : Nat → Option Blk} {rd : List Nat} {Out : Value → List (Nat × Blk) → Prop} (hs : SpOk o m ev h rd Out)
    (he : ∀ x ∈ o.op.operands, ev' x = ev x) (hh : ∀ k ∈ rd, h' k = h k) : SpOk o m ev' h' rd Out :=
  fun M ρ h2 w a hk hev hH hm => hs M ρ h2 w a (fun k hkr => (hk k hkr).trans (hh k hkr)) (fun x hx => he x hx ▸ hev x hx) hH hm

end Go.Proofs.Ytdfkcijholopoaa.Vm
