/- A region's run in the order of the text, over virtual states; it serves the machine: regions that keep the text's order. -/
import Derived.Test.YtdfkcijholopoaaVm8
namespace Go.Proofs.Ytdfkcijholopoaa.Vm
open Go
set_option linter.unusedSimpArgs false

def okX : Operand → Bool
  | .const v => plain v
  | .global _ => false
  | _ => true
def okOp (N : Nat) (o : Oper) : Bool := o.op.operands.toList.all okX && (match o.dst with | some d => decide (d < N) | none => true)

def jx (t : Nat → Value) : Operand → Bool
  | .tmp k => isJ (t k)
  | _ => false
def jsl (t : Nat → Value) : List Operand → Bool
  | [] => false
  | x :: l => match jx t x with
    | true => true
    | false => jsl t l
/-- Does it look at a slot of which nothing is known? -/
def opJ (t : Nat → Value) (op : Op) : Bool :=
  match op with
  | .move x => jx t x
  | .assign x => jx t x
  | .load _ x => jx t x
  | .fieldAddr _ x _ => jx t x
  | .extract x _ => jx t x
  | .box _ x => jx t x
  | .nilCheck x => jx t x
  | .unOp _ _ x => jx t x
  | .convert _ _ x => jx t x
  | .alloc _ => false
  | .binOp _ _ a b _ => jsl t [a, b]
  | .store _ a b => jsl t [a, b]
  | .indexAddr _ a b => jsl t [a, b]
  | .index _ a b => jsl t [a, b]
  | .pick a b c => jsl t [a, b, c]
  | .call { callee := .value f, args := ⟨l⟩, argTypes := _ } => jsl t (f :: l)
  | .call { callee := .builtin _, args := ⟨l⟩, argTypes := _ } => jsl t l
  | op => jsl t op.operands.toList
theorem jsl_append (t : Nat → Value) (a b : List Operand) : jsl t (a ++ b) = (jsl t a || jsl t b) := by
  induction a with
  | nil => rfl
  | cons x a ih =>
    simp only [List.cons_append, jsl]
    cases jx t x
    · exact ih
    · rfl
theorem jsl_one (t : Nat → Value) (x : Operand) : jsl t [x] = jx t x := by
  simp only [jsl]
  cases jx t x <;> rfl
theorem opJ_eq (t : Nat → Value) (op : Op) : opJ t op = jsl t op.operands.toList := by
  unfold opJ
  split <;> simp only [Op.operands, Call.operands, jsl_one, Array.toList_append, jsl_append, List.nil_append] <;> first | rfl | (simp [jsl])
theorem jsl_false {t : Nat → Value} {l : List Operand} (h : jsl t l = false) {k : Nat} (hk : Operand.tmp k ∈ l) : isJ (t k) = false := by
  induction l with
  | nil => cases hk
  | cons x l ih =>
    unfold jsl at h
    cases hx : jx t x with
    | true => rw [hx] at h; cases h
    | false =>
      rw [hx] at h
      rcases List.mem_cons.1 hk with rfl | hk
      · exact hx
      · exact ih h hk
theorem opJ_false {t : Nat → Value} {op : Op} (h : opJ t op = false) {k : Nat} (hk : Operand.tmp k ∈ op.operands) : isJ (t k) = false := by
  rw [opJ_eq] at h
  exact jsl_false h (by simpa using hk)
theorem jsl_local {t t' : Nat → Value} {l : List Operand} (h : ∀ k, Operand.tmp k ∈ l → t' k = t k) : jsl t' l = jsl t l := by
  induction l with
  | nil => rfl
  | cons x l ih =>
    unfold jsl
    have hx : jx t' x = jx t x := by
      cases x with
      | tmp k => simp only [jx, h k (by simp)]
      | _ => rfl
    rw [hx, ih fun k hk => h k (by simp [hk])]
theorem opJ_local {t t' : Nat → Value} {op : Op} (h : ∀ k, Operand.tmp k ∈ op.operands → t' k = t k) : opJ t' op = opJ t op := by
  rw [opJ_eq, opJ_eq]
  exact jsl_local fun k hk => h k (by simpa using hk)

theorem RR.ev {M : Nat → Prop} {w0 : World} {N : Nat} {fr : Nat → Prop} {ρ : Nat → Option (Nat × Nat)} {s : St} {a : Act} {w : World} (hr : RR M w0 N fr ρ s a w) {o : Oper} (hok : okOp N o = true) (hj : opJ s.t o.op = false) : ∀ x ∈ o.op.operands, Rel ρ (s.ev x) (a.eval x) := by
  intro x hx
  simp only [okOp, Bool.and_eq_true, List.all_eq_true] at hok
  have h1 := hok.1 x (by simpa using hx)
  cases x with
  | tmp k => exact hr.tmp k (opJ_false hj hx)
  | const v => exact .plain h1
  | global g => cases h1
  | func f => exact .plain rfl

theorem RR.mono {M : Nat → Prop} {w0 : World} {N : Nat} {fr fr' : Nat → Prop} {ρ : Nat → Option (Nat × Nat)} {s : St} {a : Act} {w : World} (hr : RR M w0 N fr ρ s a w) (h : ∀ m, fr' m → fr m) : RR M w0 N fr' ρ s a w :=
  ⟨hr.size, hr.defers, hr.tmp, hr.heap, fun m hm => hr.fresh m (h m hm), hr.kept⟩

theorem RR.put {M : Nat → Prop} {w0 : World} {N : Nat} {fr fr' : Nat → Prop} {ρ ρ' : Nat → Option (Nat × Nat)} {s : St} {a : Act} {w w' : World} (hr : RR M w0 N fr ρ s a w) {o : Oper} (hok : okOp N o = true) {v v' : Value} {u : List (Nat × Blk)}
    (he : Ext ρ ρ') (hv : Rel ρ' v v') (hH : RH M ρ' (updL s.h u) w') (hk : Kept M w w') (hf : ∀ k, fr' k → ρ' k = none) : RR M w0 N fr' ρ' (s.app o.dst v u) (a.put o.dst v') w' := by
  simp only [okOp, Bool.and_eq_true] at hok
  have hd := hok.2
  refine ⟨?_, ?_, ?_, hH, hf, hr.kept.trans hk⟩
  · cases o.dst <;> simp [Act.put, hr.size]
  · cases o.dst <;> simp [Act.put, hr.defers]
  · intro k
    cases hdst : o.dst with
    | none => exact fun hj => (hr.tmp k hj).ext he
    | some d =>
      rw [hdst] at hd
      have hlt : d < a.tmps.size := by rw [hr.size]; simpa using hd
      show isJ (upd s.t d v k) = false → Rel ρ' (upd s.t d v k) ((a.tmps.setIfInBounds d v').getD k undef)
      intro hj
      by_cases e : k = d
      · subst e
        rw [upd_same]
        simpa [hlt] using hv
      · rw [upd_ne _ _ e] at hj ⊢
        simpa [Array.getElem?_setIfInBounds_ne (Ne.symm e)] using (hr.tmp k hj).ext he

theorem wp_monoQ {P : Program} {o : Oper} {a : Act} {w : World} {K K' : Act → World → Prop} {Q Q' : Exit → Act → World → Prop} (h : ∀ a w, K a w → K' a w) (hq : ∀ e a w, Q e a w → Q' e a w) (hh : o.wp P a w K Q) : o.wp P a w K' Q' := by
  unfold Oper.wp at *
  generalize (execOp a.eval o).run P w = r at *
  cases r with
  | ok n w' =>
    cases n <;> simp only [Oper.upon] at hh ⊢ <;>
      first
        | exact h _ _ hh
        | exact Calls.mono hh (fun e w'' he => by cases e with
            | returned v => exact h _ _ he
            | panicked c => exact hq _ _ _ he
            | outgrown => obtain ⟨a, w, x⟩ := he; exact ⟨a, w, hq _ _ _ x⟩)
        | exact Rows.mono hh (fun _ _ he => h _ _ he)
  | halt x w' => cases x <;> simp only [Oper.upon] at hh ⊢ <;> first | exact hq _ _ _ hh | exact hh

theorem sp_step {M : Nat → Prop} {w0 : World} {N : Nat} {fr : Nat → Prop} {ρ : Nat → Option (Nat × Nat)} {s : St} {a : Act} {w : World} {o : Oper} {m : Nat} {rd : List Nat} {Out : Value → List (Nat × Blk) → Prop} {Q : Exit → Act → World → Prop}
    (hs : SpOk o m s.ev s.h rd Out) (hr : RR M w0 N fr ρ s a w) (hm : fr m) (hok : okOp N o = true) (hj : opJ s.t o.op = false) :
    o.wp P a w (fun a' w' => ∃ v u ρ', Out v u ∧ Ext ρ ρ' ∧ (∀ x ∈ u, x.1 = m ∨ ¬ fr x.1) ∧ RR M w0 N (fun k => fr k ∧ k ∉ u.map (·.1)) ρ' (s.app o.dst v u) a' w') Q := by
  refine wp_monoQ ?_ (fun _ _ _ h => h.elim) (hs M ρ s.h w a (fun _ _ => rfl) (hr.ev hok hj) hr.heap (hr.fresh m hm))
  rintro a' w' ⟨v, v', u, ρ', h1, rfl, h3, h4, h5, h6, h7, h8⟩
  exact ⟨v, u, ρ', h1, h3, fun x hx => (h7 x hx).imp id fun hne hf => hne (hr.fresh _ hf), hr.put hok h3 h4 h5 h6 fun k hk => h8 k (hr.fresh k hk.1) hk.2⟩

/-- Is it carried out? (none: that hangs on what is not known, or it would look at such a thing.) -/
def wantV (ops : Array Oper) (o : Oper) (t : Nat → Value) : Option Bool :=
  match o.guard with
  | none => match opJ t o.op with
    | true => none
    | false => some true
  | some (j, want) => match (ops[j]?).bind (·.dst) with
    | none => some false
    | some d => match t d with
      | .bool b => match b == want with
        | true => match opJ t o.op with
          | true => none
          | false => some true
        | false => some false
      | .chan (some _) => none
      | _ => some false

theorem wanted_eq {M : Nat → Prop} {w0 : World} {N : Nat} {fr : Nat → Prop} {ρ : Nat → Option (Nat × Nat)} {s : St} {a : Act} {w : World} (hr : RR M w0 N fr ρ s a w) {ops : Array Oper} {o : Oper} {b : Bool} (h : wantV ops o s.t = some b) :
    Region.wanted o (yielded ops a.tmps) = b ∧ (b = true → opJ s.t o.op = false) := by
  unfold wantV at h
  unfold Region.wanted
  cases hg : o.guard with
  | none =>
    rw [hg] at h
    simp only at h ⊢
    split at h
    · cases h
    · rename_i hj; cases h; exact ⟨rfl, fun _ => hj⟩
  | some g =>
    obtain ⟨j, want⟩ := g
    rw [hg] at h
    simp only at h ⊢
    unfold yielded
    cases hd : (ops[j]?).bind (·.dst) with
    | none =>
      rw [hd] at h
      cases h
      exact ⟨rfl, fun h => by cases h⟩
    | some d =>
      rw [hd] at h
      simp only [Option.bind_some] at h ⊢
      have hrel := hr.tmp d
      have hget : ∀ x, a.tmps[d]? = some x → a.tmps.getD d undef = x := fun x hx => by simp [hx]
      have hget' : a.tmps[d]? = none → a.tmps.getD d undef = undef := fun hx => by simp [hx]
      split at h
      · rename_i b' ht
        rw [ht] at hrel
        have h1 := (hrel rfl).bool_inv
        have h2 : a.tmps[d]? = some (.bool b') := by
          cases hx : a.tmps[d]? with
          | none => rw [hget' hx] at h1; cases h1
          | some x => rw [hget x hx] at h1; rw [h1]
        rw [h2]
        simp only
        split at h
        · rename_i hb
          split at h
          · cases h
          · rename_i hj
            cases h
            have hb' : b' = want := by simpa using hb
            exact ⟨by rw [hb']; simp, fun _ => hj⟩
        · rename_i hb
          cases h
          have hb' : b' ≠ want := by simpa using hb
          exact ⟨by simp [hb'], fun h => by cases h⟩
      · cases h
      · rename_i hne1 hne2
        cases h
        refine ⟨?_, fun h => by cases h⟩
        have hj : isJ (s.t d) = false := by
          cases hv : s.t d <;> first | rfl | skip
          rename_i r
          cases r with
          | none => rfl
          | some r => exact absurd hv (hne2 r)
        have h1 := hrel hj
        have h2 : ∀ b, a.tmps[d]? ≠ some (.bool b) := by
          intro b hx
          rw [hget _ hx] at h1
          have : s.t d = .bool b := by
            generalize s.t d = v at h1
            cases h1; rfl
          exact hne1 b this
        cases hx : a.tmps[d]? with
        | none => rfl
        | some x =>
          cases x <;> first | rfl | exact absurd hx (h2 _)

/-- What a core operation, or one that its guard leaves out, does: the blocks read, the value, the updates. -/
def cst (ops : Array Oper) (base i : Nat) (o : Oper) (s : St) : Option (List Nat × Value × List (Nat × Blk)) :=
  match wantV ops o s.t with
  | some true => (vex s.ev s.h o.op).map fun ef => (ef.rds, (ef.out (base + i)).1, (ef.out (base + i)).2)
  | some false => some ([], undef, [])
  | none => none

inductive Kd where
  | silent | rd | new | set | sp
  deriving DecidableEq

def kd : Op → Kd
  | .load .. => .rd
  | .store .. => .set
  | .alloc _ => .new
  | .box .. => .new
  | .buildSlice .. => .new
  | .move _ => .silent
  | .assign _ => .silent
  | .pick .. => .silent
  | .build .. => .silent
  | .nilCheck _ => .silent
  | .binOp _ 9 _ _ _ => .sp
  | .binOp .. => .silent
  | .unOp .. => .silent
  | .convert _ 9 _ => .sp
  | .convert .. => .silent
  | .makeFunc .. => .silent
  | .fieldAddr .. => .silent
  | .indexAddr .. => .silent
  | .index 9 _ _ => .sp
  | .index .. => .silent
  | .slice .. => .silent
  | .extract .. => .silent
  | .call { callee := .builtin .len, argTypes := ⟨[9]⟩, .. } => .sp
  | .call { callee := .builtin .len, .. } => .silent
  | .call { callee := .builtin .cap, .. } => .silent
  | .call { callee := .builtin .min, .. } => .silent
  | _ => .sp

/-- Unordered pairs of U: what the earlier one made or wrote the later one does not read or write, nor the other way round. -/
def chk (U : List (Nat × Nat)) (log : List (Nat × List Nat × List Nat)) (i : Nat) (rd wr : List Nat) : Prop :=
  ∀ e ∈ log, (e.1, i) ∈ U → (∀ m ∈ e.2.2, m ∉ rd ∧ m ∉ wr) ∧ (∀ m ∈ e.2.1, m ∉ wr)

/-- THE REGION's RUN IN THE ORDER OF THE TEXT. -/
def vlex (ops : Array Oper) (U : List (Nat × Nat)) (base : Nat) : List (Nat × Oper) → List (Nat × List Nat × List Nat) → St → (St → Prop) → Prop
  | [], _, s, K => K s
  | (i, o) :: rest, log, s, K =>
    (∃ rd v u, cst ops base i o s = some (rd, v, u) ∧ chk U log i rd (u.map (·.1)) ∧ vlex ops U base rest ((i, rd, u.map (·.1)) :: log) (s.app o.dst v u) K) ∨
    (kd o.op = .sp ∧ wantV ops o s.t = some true ∧ ∃ rd Out, SpOk o (base + i) s.ev s.h rd Out ∧ (∃ v u, Out v u) ∧
      ∀ v u, Out v u → chk U log i rd (u.map (·.1)) ∧ vlex ops U base rest ((i, rd, u.map (·.1)) :: log) (s.app o.dst v u) K)

theorem vlex_log {ops : Array Oper} {U : List (Nat × Nat)} {base : Nat} {K : St → Prop} : ∀ {rem : List (Nat × Oper)} {log log' : List (Nat × List Nat × List Nat)} {s : St}, (∀ e ∈ log', e ∈ log) → vlex ops U base rem log s K → vlex ops U base rem log' s K
  | [], _, _, _, _, h => h
  | (i, o) :: rest, log, log', s, hl, h => by
    have hc : ∀ {rd wr}, chk U log i rd wr → chk U log' i rd wr := fun h e he => h e (hl e he)
    have hl' : ∀ x, ∀ e ∈ x :: log', e ∈ x :: log := fun x e he => by
      rcases List.mem_cons.1 he with rfl | he
      · exact List.mem_cons_self
      · exact List.mem_cons_of_mem _ (hl e he)
    rcases h with ⟨rd, v, u, h1, h2, h3⟩ | ⟨h0, h1, rd, Out, h2, h3, h4⟩
    · exact .inl ⟨rd, v, u, h1, hc h2, vlex_log (hl' _) h3⟩
    · exact .inr ⟨h0, h1, rd, Out, h2, h3, fun v u hu => ⟨hc (h4 v u hu).1, vlex_log (hl' _) (h4 v u hu).2⟩⟩

def idx : Nat → List Oper → List (Nat × Oper)
  | _, [] => []
  | k, o :: l => (k, o) :: idx (k + 1) l

theorem St.app_undef (s : St) (d : Option Nat) : s.app d undef [] = s.put d undef := by
  cases d <;> rfl

/-- The next operation, and what must hold of the state behind it. -/
def Dis (ops : Array Oper) (base i : Nat) (o : Oper) (s : St) (V : St → Prop) : Prop :=
  (∃ rd v u, cst ops base i o s = some (rd, v, u) ∧ V (s.app o.dst v u)) ∨
  (wantV ops o s.t = some true ∧ ∃ rd Out, SpOk o (base + i) s.ev s.h rd Out ∧ ∀ v u, Out v u → V (s.app o.dst v u))

theorem dis_step {M : Nat → Prop} {w0 : World} {N : Nat} {fr : Nat → Prop} {ρ : Nat → Option (Nat × Nat)} {s : St} {a : Act} {w : World} {ops : Array Oper} {base i : Nat} {o : Oper} {V : St → Prop}
    {K' : Act → World → Prop} {Q : Exit → Act → World → Prop}
    (hv : Dis ops base i o s V) (hr : RR M w0 N fr ρ s a w) (hm : fr (base + i)) (hok : okOp N o = true)
    (hK : ∀ ρ' v u a' w', Ext ρ ρ' → (∀ x ∈ u, x.1 = base + i ∨ ¬ fr x.1) → RR M w0 N (fun k => fr k ∧ k ∉ u.map (·.1)) ρ' (s.app o.dst v u) a' w' → V (s.app o.dst v u) → K' a' w') :
    if Region.wanted o (yielded ops a.tmps) then o.wp P a w K' Q ∨ (o.asks P a w ∧ LetsOut Q) else K' (a.put o.dst undef) w := by
  rcases hv with ⟨rd, v, u, h1, h3⟩ | ⟨hw, rd, Out, h1, h3⟩
  · unfold cst at h1
    cases hw : wantV ops o s.t with
    | none => rw [hw] at h1; cases h1
    | some b =>
      obtain ⟨hwe, hj⟩ := wanted_eq hr hw
      rw [hwe]
      rw [hw] at h1
      cases b with
      | true =>
        simp only at h1
        rw [if_pos rfl]
        left
        cases he : vex s.ev s.h o.op with
        | none => rw [he] at h1; cases h1
        | some ef =>
          rw [he] at h1
          cases h1
          refine Oper.wp_mono ?_ (sp_step (Q := Q) (sp_of_vex (m := base + i) he) hr hm hok (hj rfl))
          rintro a' w' ⟨v, u, ρ', ⟨rfl, rfl⟩, h5, h6, h7⟩
          exact hK ρ' _ _ a' w' h5 h6 h7 h3
      | false =>
        simp only at h1
        cases h1
        rw [if_neg (by simp)]
        refine hK ρ undef [] _ w (Ext.refl _) (fun x hx => by cases hx) ?_ h3
        exact hr.put hok (Ext.refl _) (.plain rfl) hr.heap (Kept.refl _ _) fun k hk => hr.fresh k hk.1
  · obtain ⟨hwe, hj⟩ := wanted_eq hr hw
    rw [hwe, if_pos rfl]
    left
    refine Oper.wp_mono ?_ (sp_step (Q := Q) h1 hr hm hok (hj rfl))
    rintro a' w' ⟨v, u, ρ', h4, h5, h6, h7⟩
    exact hK ρ' v u a' w' h5 h6 h7 (h3 v u h4)

/-- A region that keeps the text's order. -/
theorem vlex_list {M : Nat → Prop} {w0 : World} {N : Nat} {ops : Array Oper} {U : List (Nat × Nat)} {base : Nat} {K : St → Prop} {Q : Exit → Act → World → Prop} : ∀ (l : List Oper) (i : Nat) (log : List (Nat × List Nat × List Nat)) (ρ : Nat → Option (Nat × Nat)) (s : St) (a : Act) (w : World),
    vlex ops U base (idx i l) log s K → s.n ≤ base + i → RR M w0 N (fun m => s.n ≤ m) ρ s a w → (l.all (okOp N)) = true →
    (∀ ρ' s' a' w', Ext ρ ρ' → RR M w0 N (fun m => s'.n ≤ m) ρ' s' a' w' → K s' → Q .normal a' w') → wpList P ops Q l a w
  | [], i, log, ρ, s, a, w, hv, _, hr, _, hQ => hQ ρ s a w (Ext.refl _) hr hv
  | o :: l, i, log, ρ, s, a, w, hv, hn, hr, hok, hQ => by
    simp only [List.all_cons, Bool.and_eq_true] at hok
    have hd : Dis ops base i o s (fun s' => vlex ops U base (idx (i + 1) l) [] s' K) := by
      rcases hv with ⟨rd, v, u, h1, _, h3⟩ | ⟨_, hw, rd, Out, h1, _, h3⟩
      · exact .inl ⟨rd, v, u, h1, vlex_log (fun e he => by cases he) h3⟩
      · exact .inr ⟨hw, rd, Out, h1, fun v u hu => vlex_log (fun e he => by cases he) (h3 v u hu).2⟩
    unfold wpList
    refine dis_step (Q := Q) hd hr hn hok.1 ?_
    intro ρ' v u a' w' he hu hr' hv'
    have hlt : ∀ x ∈ u, x.1 < base + (i + 1) := fun x hx => by
      rcases hu x hx with h | h
      · omega
      · simp only [Nat.not_le] at h; omega
    refine vlex_list l (i + 1) [] ρ' (s.app o.dst v u) a' w' hv' (bump_le (by omega) hlt) (hr'.mono fun m hm => ⟨?_, ?_⟩) hok.2 ?_
    · have := le_bump u s.n
      have hm' : bump s.n u ≤ m := hm
      omega
    · intro hmem
      obtain ⟨x, hx, rfl⟩ := List.mem_map.1 hmem
      have hm' : bump s.n u ≤ x.1 := hm
      have := lt_bump (n := s.n) hx
      omega
    · intro ρ2 s2 a2 w2 he2 hr2 hk
      exact hQ ρ2 s2 a2 w2 (he.trans he2) hr2 hk

end Go.Proofs.Ytdfkcijholopoaa.Vm
