/- What the proofs stand on, in one text: Vm15, Vm16, Vm17, Vm18, Vm19, Vm20, Vm21, Vm22, Vm23, Vm24, Vm25. -/
import Derived.Test.YtdfkcijholopoaaMg2
import Derived.LoopN
import Derived.Laws.Runes
namespace Go.Proofs.Ytdfkcijholopoaa.Vm
open Go Go.RowKit
set_option linter.unusedSimpArgs false

abbrev Log := List (Nat × List Nat × List Nat)
def chkB (U : List (Nat × Nat)) (log : Log) (i : Nat) (rd wr : List Nat) : Bool :=
  log.all fun e => !U.contains (e.1, i) || ((e.2.2.all fun m => !rd.contains m && !wr.contains m) && (e.2.1.all fun m => !wr.contains m))
theorem chk_of_B {U : List (Nat × Nat)} {log : Log} {i : Nat} {rd wr : List Nat} (h : chkB U log i rd wr = true) : chk U log i rd wr := by
  intro e he hu
  have h1 := List.all_eq_true.1 h e he
  have h2 : U.contains (e.1, i) = true := by simpa using hu
  rw [h2] at h1
  simp only [Bool.not_true, Bool.false_or, Bool.and_eq_true, List.all_eq_true, Bool.not_eq_true', List.contains_eq_mem, decide_eq_false_iff_not] at h1
  exact h1

/-- The run over core operations (no other may come). -/
def goD (z : Bool) (ops : Array Oper) (U : List (Nat × Nat)) (base : Nat) : Nat → List Oper → Log → (Nat → Value) → (Nat → Option Blk) → Nat → (Log → (Nat → Value) → (Nat → Option Blk) → Nat → Prop) → Prop
  | _, [], log, t, h, n, K => K log t h n
  | i, o :: rest, log, t, h, n, K =>
    match wantV ops o t with
    | some true => match vex (evT t) h o.op with
      | some (.val v) => forceV (opSmall o.op) v fun v => match o.dst with
        | some d => goD z ops U base (i + 1) rest log (upd t d v) h n K
        | none => goD z ops U base (i + 1) rest log t h n K
      | some (.rd m v) => match chkB U log i [m] [] with
        | true => forceV (opSmall o.op) v fun v => match o.dst with
          | some d => goD z ops U base (i + 1) rest ((i, [m], []) :: log) (upd t d v) h n K
          | none => goD z ops U base (i + 1) rest ((i, [m], []) :: log) t h n K
        | false => False
      | some (.new b p) => forceB b fun b => forceN z (base + i) fun m => forceN z (max n (m + 1)) fun n => force (p m) fun v => match chkB U log i [] [m] with
        | true => match o.dst with
          | some d => goD z ops U base (i + 1) rest ((i, [], [m]) :: log) (upd t d v) (upd h m (some b)) n K
          | none => goD z ops U base (i + 1) rest ((i, [], [m]) :: log) t (upd h m (some b)) n K
        | false => False
      | some (.set k b) => forceB b fun b => forceN z (max n (k + 1)) fun n => match chkB U log i [k] [k] with
        | true => match o.dst with
          | some d => goD z ops U base (i + 1) rest ((i, [k], [k]) :: log) (upd t d undef) (upd h k (some b)) n K
          | none => goD z ops U base (i + 1) rest ((i, [k], [k]) :: log) t (upd h k (some b)) n K
        | false => False
      | none => False
    | some false => match o.dst with
      | some d => goD z ops U base (i + 1) rest log (upd t d undef) h n K
      | none => goD z ops U base (i + 1) rest log t h n K
    | none => False

def goDK (ops : Array Oper) (U : List (Nat × Nat)) (base i : Nat) (o : Oper) (log : Log) (t : Nat → Value) (h : Nat → Option Blk) (n : Nat) (k : Log → (Nat → Value) → (Nat → Option Blk) → Nat → Prop) : Prop :=
  match wantV ops o t with
  | some true => match vex (evT t) h o.op with
    | some (.val v) => k log (putT t o.dst v) h n
    | some (.rd m v) => match chkB U log i [m] [] with | true => k ((i, [m], []) :: log) (putT t o.dst v) h n | false => False
    | some (.new b p) => match chkB U log i [] [base + i] with | true => k ((i, [], [base + i]) :: log) (putT t o.dst (p (base + i))) (upd h (base + i) (some b)) (max n (base + i + 1)) | false => False
    | some (.set m b) => match chkB U log i [m] [m] with | true => k ((i, [m], [m]) :: log) (putT t o.dst undef) (upd h m (some b)) (max n (m + 1)) | false => False
    | none => False
  | some false => k log (putT t o.dst undef) h n
  | none => False

theorem goD_cons (z : Bool) (ops : Array Oper) (U : List (Nat × Nat)) (base i : Nat) (o : Oper) (rest : List Oper) (log : Log) (t : Nat → Value) (h : Nat → Option Blk) (n : Nat) (K : Log → (Nat → Value) → (Nat → Option Blk) → Nat → Prop) :
    goD z ops U base i (o :: rest) log t h n K = goDK ops U base i o log t h n fun log t h n => goD z ops U base (i + 1) rest log t h n K := by
  unfold goDK
  rw [goD]
  simp only [forceV_eq, forceB_eq, forceN_eq, force_eq]
  cases o.dst <;> rfl

/-- A log that may lack entries that say nothing. -/
def LogOk (log' log : Log) : Prop := ∀ e ∈ log', e ∈ log ∨ (e.2.1 = [] ∧ e.2.2 = [])
theorem LogOk.cons {log' log : Log} (h : LogOk log' log) (x : Nat × List Nat × List Nat) : LogOk (x :: log') (x :: log) := fun e he => by
  rcases List.mem_cons.1 he with rfl | he
  · exact .inl List.mem_cons_self
  · exact (h e he).imp (List.mem_cons_of_mem _) id
theorem LogOk.skip {log' log : Log} (h : LogOk log' log) (i : Nat) : LogOk ((i, [], []) :: log') log := fun e he => by
  rcases List.mem_cons.1 he with rfl | he
  · exact .inr ⟨rfl, rfl⟩
  · exact h e he
theorem LogOk.chk {U : List (Nat × Nat)} {log' log : Log} (h : LogOk log' log) {i : Nat} {rd wr : List Nat} (hc : chk U log i rd wr) : chk U log' i rd wr := fun e he hu => by
  rcases h e he with h1 | ⟨h1, h2⟩
  · exact hc e h1 hu
  · rw [h1, h2]; simp

/-- The region's run from here, whatever idle entries its log bears. -/
def W (ops : Array Oper) (U : List (Nat × Nat)) (base i : Nat) (l : List Oper) (log : Log) (t : Nat → Value) (h : Nat → Option Blk) (n : Nat) (K : St → Prop) : Prop :=
  ∀ log', LogOk log' log → vgoD ops U base i l log' ⟨t, h, n⟩ K

theorem W_step {ops : Array Oper} {U : List (Nat × Nat)} {base i : Nat} {o : Oper} {rest : List Oper} {log : Log} {t : Nat → Value} {h : Nat → Option Blk} {n : Nat} {K : St → Prop} {k : Log → (Nat → Value) → (Nat → Option Blk) → Nat → Prop}
    (hg : goDK ops U base i o log t h n k) (hk : ∀ log t h n, k log t h n → W ops U base (i + 1) rest log t h n K) : W ops U base i (o :: rest) log t h n K := by
  intro log' hl
  unfold goDK at hg
  cases hw : wantV ops o t with
  | none => rw [hw] at hg; exact hg.elim
  | some b =>
  cases b with
  | true =>
    rw [hw] at hg
    simp only at hg
    cases he : vex (evT t) h o.op with
    | none => rw [he] at hg; exact hg.elim
    | some ef =>
      rw [he] at hg
      rw [evT_eq t h n] at he
      unfold vgoD
      simp only [hw, he]
      cases ef with
      | val v =>
        simp only at hg ⊢
        refine ⟨hl.chk fun e _ _ => by simp [Ef.rds, Ef.out], ?_⟩
        rw [app_putT]
        exact hk _ _ _ _ hg _ (hl.skip i)
      | rd m v =>
        simp only at hg ⊢
        split at hg
        · rename_i hc
          refine ⟨hl.chk (chk_of_B hc), ?_⟩
          rw [app_putT]
          exact hk _ _ _ _ hg _ (hl.cons _)
        · exact hg.elim
      | new b p =>
        simp only at hg ⊢
        split at hg
        · rename_i hc
          refine ⟨hl.chk (chk_of_B hc), ?_⟩
          rw [app_putT]
          exact hk _ _ _ _ hg _ (hl.cons _)
        · exact hg.elim
      | set m b =>
        simp only at hg ⊢
        split at hg
        · rename_i hc
          refine ⟨hl.chk (chk_of_B hc), ?_⟩
          rw [app_putT]
          exact hk _ _ _ _ hg _ (hl.cons _)
        · exact hg.elim
  | false =>
    rw [hw] at hg
    unfold vgoD
    simp only [hw]
    simp only at hg
    have := hk _ _ _ _ hg _ hl
    cases hd : o.dst <;> (rw [hd] at this; exact this)

theorem goD_mono {z : Bool} {ops : Array Oper} {U : List (Nat × Nat)} {base : Nat} : ∀ (l : List Oper) {i : Nat} {log : Log} {t : Nat → Value} {h : Nat → Option Blk} {n : Nat} {K1 K2 : Log → (Nat → Value) → (Nat → Option Blk) → Nat → Prop},
    (∀ log t h n, K1 log t h n → K2 log t h n) → goD z ops U base i l log t h n K1 → goD z ops U base i l log t h n K2
  | [], _, _, _, _, _, _, _, hk, hg => hk _ _ _ _ hg
  | o :: l, i, log, t, h, n, K1, K2, hk, hg => by
    rw [goD_cons] at hg ⊢
    unfold goDK at hg ⊢
    split
    · rename_i hw
      rw [hw] at hg
      simp only at hg
      split <;> rename_i he <;> rw [he] at hg <;> simp only at hg
      · exact goD_mono l hk hg
      · split <;> rename_i hc <;> rw [hc] at hg
        · exact goD_mono l hk hg
        · exact hg
      · split <;> rename_i hc <;> rw [hc] at hg
        · exact goD_mono l hk hg
        · exact hg
      · split <;> rename_i hc <;> rw [hc] at hg
        · exact goD_mono l hk hg
        · exact hg
    · rename_i hw
      rw [hw] at hg
      exact goD_mono l hk hg
    · rename_i hw
      rw [hw] at hg
      exact hg

theorem runD_n {z : Bool} {ops : Array Oper} {U : List (Nat × Nat)} {base : Nat} {K : St → Prop} (m : Nat) : ∀ {i : Nat} {l : List Oper} {log : Log} {t : Nat → Value} {h : Nat → Option Blk} {n : Nat},
    (∀ K' : Log → (Nat → Value) → (Nat → Option Blk) → Nat → Prop, (∀ log t h n, W ops U base (i + m) (l.drop m) log t h n K → K' log t h n) → goD z ops U base i (l.take m) log t h n K') → m ≤ l.length → W ops U base i l log t h n K := by
  induction m with
  | zero =>
    intro i l log t h n H _
    exact H (fun log t h n => W ops U base (i + 0) (l.drop 0) log t h n K) fun _ _ _ _ h => h
  | succ m ih =>
    intro i l log t h n H hm
    cases l with
    | nil => simp at hm
    | cons o l =>
      have h0 := H (fun log t h n => W ops U base (i + (m + 1)) (l.drop m) log t h n K) fun _ _ _ _ h => h
      rw [List.take_succ_cons, goD_cons] at h0
      refine W_step h0 fun log t h n hg => ih (fun K' hK' => ?_) (by simpa using hm)
      exact goD_mono _ (fun log t h n hv => hK' log t h n (by rw [show i + 1 + m = i + (m + 1) by omega]; exact hv)) hg

theorem runD_end {z : Bool} {ops : Array Oper} {U : List (Nat × Nat)} {base : Nat} {K : St → Prop} {i : Nat} {l : List Oper} {log : Log} {t : Nat → Value} {h : Nat → Option Blk} {n : Nat}
    (H : ∀ K' : Log → (Nat → Value) → (Nat → Option Blk) → Nat → Prop, (∀ log t h n, K ⟨t, h, n⟩ → K' log t h n) → goD z ops U base i l log t h n K') : W ops U base i l log t h n K := by
  refine runD_n (z := z) l.length (fun K' hK' => ?_) (Nat.le_refl _)
  rw [List.take_length]
  refine H K' fun log t h n hk => hK' log t h n ?_
  rw [List.drop_length]
  exact fun _ _ => hk

theorem vc_regD {B N id : Nat} {l : List Oper} {Q : Exit → St → Prop} {t : Nat → Value} {h : Nat → Option Blk} {n : Nat} (U : List (Nat × Nat)) (hok : l.all (okOp N) = true) (hg : goodR l.toArray U = true)
    (H : ∀ K : St → Prop, (∀ t h n, Q .normal ⟨t, h, n⟩ → K ⟨t, h, n⟩) → W l.toArray U n 0 l [] t h n K) : VC (B := B) N (.region id l.toArray true) Q ⟨t, h, n⟩ :=
  vc_regionD U hok hg fun K hK => H K (fun _ _ _ hq => hK _ hq) [] fun e he => by cases he
theorem vc_goD {B N id : Nat} {l : List Oper} {Q : Exit → St → Prop} {t : Nat → Value} {h : Nat → Option Blk} {n : Nat} (U : List (Nat × Nat)) (hok : l.all (okOp N) = true) (hg : goodR l.toArray U = true)
    (H : ∀ K : Log → (Nat → Value) → (Nat → Option Blk) → Nat → Prop, (∀ log t h n, Q .normal ⟨t, h, n⟩ → K log t h n) → goD false l.toArray U n 0 l [] t h n K) : VC (B := B) N (.region id l.toArray true) Q ⟨t, h, n⟩ :=
  vc_regD U hok hg fun _ hK => runD_end (z := false) fun K' hK' => H K' fun log t h n hq => hK' log t h n (hK _ _ _ hq)

theorem runD_op {ops : Array Oper} {U : List (Nat × Nat)} {base i : Nat} {o : Oper} {rest : List Oper} {log : Log} {t : Nat → Value} {h : Nat → Option Blk} {n : Nat} {K : St → Prop} {v : Value} (he : vex (evT t) h o.op = some (.val v)) (hw : wantV ops o t = some true)
    (k : W ops U base (i + 1) rest log (putT t o.dst v) h n K) : W ops U base i (o :: rest) log t h n K := by
  refine W_step (k := fun log' t' h' n' => log' = log ∧ t' = putT t o.dst v ∧ h' = h ∧ n' = n) ?_ ?_
  · unfold goDK; rw [hw, he]; exact ⟨rfl, rfl, rfl, rfl⟩
  · rintro _ _ _ _ ⟨rfl, rfl, rfl, rfl⟩; exact k
theorem runD_rd {ops : Array Oper} {U : List (Nat × Nat)} {base i : Nat} {o : Oper} {rest : List Oper} {log : Log} {t : Nat → Value} {h : Nat → Option Blk} {n : Nat} {K : St → Prop} {m : Nat} {v : Value} (he : vex (evT t) h o.op = some (.rd m v)) (hw : wantV ops o t = some true)
    (hc : chkB U log i [m] [] = true) (k : W ops U base (i + 1) rest ((i, [m], []) :: log) (putT t o.dst v) h n K) : W ops U base i (o :: rest) log t h n K := by
  refine W_step (k := fun log' t' h' n' => log' = (i, [m], []) :: log ∧ t' = putT t o.dst v ∧ h' = h ∧ n' = n) ?_ ?_
  · unfold goDK; rw [hw, he]; dsimp only; rw [hc]; exact ⟨rfl, rfl, rfl, rfl⟩
  · rintro _ _ _ _ ⟨rfl, rfl, rfl, rfl⟩; exact k
theorem runD_set {ops : Array Oper} {U : List (Nat × Nat)} {base i : Nat} {o : Oper} {rest : List Oper} {log : Log} {t : Nat → Value} {h : Nat → Option Blk} {n : Nat} {K : St → Prop} {m : Nat} {b : Blk} (he : vex (evT t) h o.op = some (.set m b)) (hw : wantV ops o t = some true)
    (hm : m + 1 ≤ n) (hd : o.dst = none) (hc : chkB U log i [m] [m] = true) (k : W ops U base (i + 1) rest ((i, [m], [m]) :: log) t (upd h m (some b)) n K) : W ops U base i (o :: rest) log t h n K := by
  refine W_step (k := fun log' t' h' n' => log' = (i, [m], [m]) :: log ∧ t' = t ∧ h' = upd h m (some b) ∧ n' = n) ?_ ?_
  · unfold goDK; rw [hw, he]; dsimp only; rw [hc, hd]; exact ⟨rfl, rfl, rfl, by omega⟩
  · rintro _ _ _ _ ⟨rfl, rfl, rfl, rfl⟩; exact k
theorem runD_call {ops : Array Oper} {U : List (Nat × Nat)} {base i : Nat} {o : Oper} {rest : List Oper} {log : Log} {t : Nat → Value} {h : Nat → Option Blk} {n : Nat} {K : St → Prop} {f : Operand} {args : Array Operand} {ats : Array TypeId} {g : FuncId} {v : Value} {vs : List Value}
    (hp : Pure g vs v) (ho : o.op = .call { callee := .value f, args := args, argTypes := ats }) (ha : args.toList.map (evT t) = vs) (hw : wantV ops o t = some true) (hf : evT t f = .func (.func g) #[] #[])
    (k : W ops U base (i + 1) rest log (putT t o.dst v) h n K) : W ops U base i (o :: rest) log t h n K := by
  intro log' hl
  subst ha
  rw [evT_eq t h n] at hp hf
  have hv : vex (⟨t, h, n⟩ : St).ev h o.op = none := by rw [ho]; rfl
  have hk : kd o.op = .sp := by rw [ho]; rfl
  unfold vgoD
  simp only [hw, hv]
  refine ⟨hk, [], _, sp_pure ho hf hp, ⟨v, [], rfl, rfl⟩, ?_⟩
  rintro v' u ⟨rfl, rfl⟩
  refine ⟨fun e _ _ => by simp, ?_⟩
  rw [app_putT]
  exact k _ (hl.skip i)

theorem upd_eta {α : Type} (f : Nat → α) {k : Nat} {v : α} (h : f k = v) : upd f k v = f := by
  funext i
  by_cases e : i = k
  · subst e; rw [upd_same, h]
  · rw [upd_ne _ _ e]
theorem W_case {ops : Array Oper} {U : List (Nat × Nat)} {base i : Nat} {l : List Oper} {log : Log} {t : Nat → Value} {h : Nat → Option Blk} {n : Nat} {K : St → Prop} (d : Nat) {b : Bool} (hd : t d = .bool b)
    (h1 : b = true → W ops U base i l log (upd t d (.bool true)) h n K) (h2 : b = false → W ops U base i l log (upd t d (.bool false)) h n K) : W ops U base i l log t h n K := by
  cases b with
  | true => have := h1 rfl; rwa [upd_eta t hd] at this
  | false => have := h2 rfl; rwa [upd_eta t hd] at this

/-! ### A state, said anew: what is live in it -/
def updT (t : Nat → Value) : List (Nat × Value) → Nat → Value
  | [] => t
  | (k, v) :: l => upd (updT t l) k v
def updH (h : Nat → Option Blk) : List (Nat × Blk) → Nat → Option Blk
  | [] => h
  | (k, b) :: l => upd (updH h l) k (some b)
def HasT (t : Nat → Value) : List (Nat × Value) → Prop
  | [] => True
  | (k, v) :: l => t k = v ∧ HasT t l
def HasH (h : Nat → Option Blk) : List (Nat × Blk) → Prop
  | [] => True
  | (k, b) :: l => h k = some b ∧ HasH h l
theorem updT_eta {t : Nat → Value} : ∀ {l : List (Nat × Value)}, HasT t l → updT t l = t
  | [], _ => rfl
  | (k, v) :: l, h => by rw [updT, updT_eta h.2, upd_eta t h.1]
theorem updH_eta {t : Nat → Option Blk} : ∀ {l : List (Nat × Blk)}, HasH t l → updH t l = t
  | [], _ => rfl
  | (k, v) :: l, h => by rw [updH, updH_eta h.2, upd_eta t h.1]

/-- The state whose slots lt and blocks lh are known. -/
def IsSt (lt : List (Nat × Value)) (lh : List (Nat × Blk)) (n : Nat) (s : St) : Prop := ∃ t h, s = ⟨updT t lt, updH h lh, n⟩
theorem isSt {t : Nat → Value} {h : Nat → Option Blk} {n n' : Nat} {lt : List (Nat × Value)} {lh : List (Nat × Blk)} (ht : HasT t lt) (hh : HasH h lh) (hn : n = n') : IsSt lt lh n' ⟨t, h, n⟩ :=
  ⟨t, h, by rw [updT_eta ht, updH_eta hh, hn]⟩
theorem refocus {Q : St → Prop} {t : Nat → Value} {h : Nat → Option Blk} {n : Nat} (lt : List (Nat × Value)) (lh : List (Nat × Blk)) (n' : Nat) (ht : HasT t lt) (hh : HasH h lh) (hn : n = n') (k : ∀ t h, Q ⟨updT t lt, updH h lh, n'⟩) : Q ⟨t, h, n⟩ := by
  obtain ⟨t', h', e⟩ := isSt ht hh hn
  rw [e]
  exact k t' h'

end Go.Proofs.Ytdfkcijholopoaa.Vm
namespace Go.Proofs.Ytdfkcijholopoaa.Vm
open Go Go.RowKit
set_option linter.unusedSimpArgs false

mutual
/-- Its addresses' names, turned by f. -/
def renV (f : Nat → Nat × Nat) : Value → Value
  | .map (some m) => match (f m).2 with
    | 0 => .map (some (f m).1)
    | _ + 1 => .pointer (some ⟨0, 0, some 0⟩)
  | .pointer (some ⟨m, k, sp⟩) => .pointer (some ⟨(f m).1, (f m).2 + k, sp⟩)
  | .slice (some ⟨m, k, sp⟩) l c => .slice (some ⟨(f m).1, (f m).2 + k, sp⟩) l c
  | .func fn a c => .func fn (renA f a) (renA f c)
  | .agg cs => .agg (renA f cs)
  | .tuple vs => .tuple (renA f vs)
  | v => v
def renA (f : Nat → Nat × Nat) : Array Value → Array Value
  | ⟨l⟩ => ⟨renL f l⟩
def renL (f : Nat → Nat × Nat) : List Value → List Value
  | [] => []
  | v :: l => renV f v :: renL f l
/-- All names in it are below n. -/
def bdV (n : Nat) : Value → Bool
  | .pointer (some ⟨m, _, _⟩) => decide (m < n)
  | .slice (some ⟨m, _, _⟩) _ _ => decide (m < n)
  | .map (some m) => decide (m < n)
  | .func _ a c => bdA n a && bdA n c
  | .agg cs => bdA n cs
  | .tuple vs => bdA n vs
  | .iface _ v => plain v
  | .chan (some _) => false
  | _ => true
def bdA (n : Nat) : Array Value → Bool
  | ⟨l⟩ => bdL n l
def bdL (n : Nat) : List Value → Bool
  | [] => true
  | v :: l => bdV n v && bdL n l
end

theorem renV_map_cases (f : Nat → Nat × Nat) (a : Option Nat) : (renV f (.map a) = .map none ∧ a = none) ∨ (∃ m, a = some m ∧ (f m).2 = 0 ∧ renV f (.map a) = .map (some (f m).1)) ∨ renV f (.map a) = .pointer (some ⟨0, 0, some 0⟩) := by
  cases a with
  | none => exact .inl ⟨rfl, rfl⟩
  | some m =>
    right
    cases h : (f m).2 with
    | zero => exact .inl ⟨m, rfl, h, by simp only [renV, h]⟩
    | succ k => exact .inr (by simp only [renV, h])
theorem renL_get (f : Nat → Nat × Nat) : ∀ (l : List Value) (i : Nat), (renL f l)[i]? = (l[i]?).map (renV f)
  | [], i => by simp [renL]
  | v :: l, 0 => by simp [renL]
  | v :: l, i + 1 => by simp [renL, renL_get f l i]
theorem renA_get (f : Nat → Nat × Nat) (c : Array Value) (i : Nat) : (renA f c)[i]? = (c[i]?).map (renV f) := by
  obtain ⟨l⟩ := c
  simpa [renA] using renL_get f l i
theorem renA_size (f : Nat → Nat × Nat) (c : Array Value) : (renA f c).size = c.size := by
  obtain ⟨l⟩ := c
  have : ∀ l, (renL f l).length = l.length := by
    intro l
    induction l with
    | nil => rfl
    | cons v l ih => simp [renL, ih]
  simpa [renA] using this l
theorem bdL_get {n : Nat} : ∀ {l : List Value}, bdL n l = true → ∀ {i : Nat} {v : Value}, l[i]? = some v → bdV n v = true
  | [], _, i, v, h => by simp at h
  | x :: l, hb, 0, v, h => by simp [bdL] at hb; simp at h; subst h; exact hb.1
  | x :: l, hb, i + 1, v, h => by simp [bdL] at hb; exact bdL_get hb.2 (by simpa using h)
theorem bdA_get {n : Nat} {c : Array Value} (hb : bdA n c = true) {i : Nat} {v : Value} (h : c[i]? = some v) : bdV n v = true := by
  obtain ⟨l⟩ := c
  exact bdL_get (l := l) (by simpa [bdA] using hb) (by simpa using h)

def resV (ρ : Nat → Option (Nat × Nat)) (f : Nat → Nat × Nat) (n : Nat) (k : Nat) : Option (Nat × Nat) := if k < n then (ρ (f k).1).map fun x => (x.1, x.2 + (f k).2) else none
/-- The renaming, back: what stands for the turned value stands for the value. -/
theorem Rel.ren {ρ : Nat → Option (Nat × Nat)} {f : Nat → Nat × Nat} {n : Nat} : ∀ {u x : Value}, Rel ρ x u → ∀ v, x = renV f v → bdV n v = true → Rel (resV ρ f n) v u := by
  intro u x h
  have arr : ∀ {c' c : Array Value}, (∀ (i : Nat) (v v' : Value), (renA f c)[i]? = some v → c'[i]? = some v' → ∀ v0, v = renV f v0 → bdV n v0 = true → Rel (resV ρ f n) v0 v') → bdA n c = true →
      ∀ (i : Nat) (v v' : Value), c[i]? = some v → c'[i]? = some v' → Rel (resV ρ f n) v v' := by
    intro c' c ih hb i v v' h1 h2
    exact ih i (renV f v) v' (by rw [renA_get, h1]; rfl) h2 v rfl (bdA_get hb h1)
  induction h with
  | @plain x hp =>
    intro v hx hb
    have key : ∀ (v : Value), bdV n v = true → Vm.plain (renV f v) = true → renV f v = v ∧ Vm.plain v = true := by
      intro v
      refine Value.rec (motive_1 := fun v => bdV n v = true → Vm.plain (renV f v) = true → renV f v = v ∧ Vm.plain v = true)
        (motive_2 := fun c => bdA n c = true → plainA (renA f c) = true → renA f c = c ∧ plainA c = true) (motive_3 := fun l => bdL n l = true → plainL (renL f l) = true → renL f l = l ∧ plainL l = true)
        ?_ ?_ ?_ ?_ ?_ ?_ ?_ ?_ ?_ ?_ ?_ ?_ ?_ ?_ ?_ ?_ ?_ ?_ v
      · intro b _ _; exact ⟨rfl, rfl⟩
      · intro k n _ _; exact ⟨rfl, rfl⟩
      · intro k n _ _; exact ⟨rfl, rfl⟩
      · intro k n m _ _; exact ⟨rfl, rfl⟩
      · intro s _ _; exact ⟨rfl, rfl⟩
      · intro a _ h
        cases a with
        | none => exact ⟨rfl, rfl⟩
        | some a => simp [renV, Vm.plain] at h
      · intro a l c _ h
        cases a with
        | none => exact ⟨rfl, rfl⟩
        | some a => simp [renV, Vm.plain] at h
      · intro r _ h
        cases r with
        | none => exact ⟨rfl, rfl⟩
        | some r =>
          exfalso
          revert h
          simp only [renV]
          split <;> simp [Vm.plain]
      · intro r hb h
        cases r with
        | none => exact ⟨rfl, rfl⟩
        | some r => simp [bdV] at hb
      · intro fn a c iha ihc hb h
        simp only [bdV, Bool.and_eq_true] at hb
        simp only [renV, Vm.plain, Bool.and_eq_true] at h
        obtain ⟨e1, e2⟩ := iha hb.1 h.1
        obtain ⟨e3, e4⟩ := ihc hb.2 h.2
        exact ⟨by simp only [renV, e1, e3], by simp only [Vm.plain, e2, e4, Bool.and_self]⟩
      · intro _ _; exact ⟨rfl, rfl⟩
      · intro t v _ hb h; exact ⟨rfl, by simpa [renV, Vm.plain] using h⟩
      · intro _ _; exact ⟨rfl, rfl⟩
      · intro c ih hb h
        simp only [bdV] at hb
        simp only [renV, Vm.plain] at h
        obtain ⟨e1, e2⟩ := ih hb h
        exact ⟨by simp only [renV, e1], by simp only [Vm.plain, e2]⟩
      · intro c ih hb h
        simp only [bdV] at hb
        simp only [renV, Vm.plain] at h
        obtain ⟨e1, e2⟩ := ih hb h
        exact ⟨by simp only [renV, e1], by simp only [Vm.plain, e2]⟩
      · intro l ih hb h
        simp only [bdA] at hb
        simp only [renA, plainA] at h
        obtain ⟨e1, e2⟩ := ih hb h
        exact ⟨by simp only [renA, e1], by simp only [plainA, e2]⟩
      · intro _ _; exact ⟨rfl, rfl⟩
      · intro v l ihv ihl hb h
        simp only [bdL, Bool.and_eq_true] at hb
        simp only [renL, plainL, Bool.and_eq_true] at h
        obtain ⟨e1, e2⟩ := ihv hb.1 h.1
        obtain ⟨e3, e4⟩ := ihl hb.2 h.2
        exact ⟨by simp only [renL, e1, e3], by simp only [plainL, e2, e4, Bool.and_self]⟩
    obtain ⟨e1, e2⟩ := key v hb (hx ▸ hp)
    rw [hx, e1]
    exact .plain e2
  | @ptr m k r o hm =>
    intro v hx hb
    cases v with
    | pointer a =>
      cases a with
      | none => simp [renV] at hx
      | some a =>
        obtain ⟨m', k', sp⟩ := a
        simp only [renV, Value.pointer.injEq, Option.some.injEq, Addr.mk.injEq] at hx
        obtain ⟨rfl, rfl, rfl⟩ := hx
        simp only [bdV, decide_eq_true_eq] at hb
        rw [← Nat.add_assoc]
        exact .ptr (by simp only [resV, if_pos hb, hm, Option.map_some])
    | slice a l c => cases a <;> simp [renV] at hx
    | map a => rcases renV_map_cases f a with ⟨h, _⟩ | ⟨k, _, _, h⟩ | h <;> rw [h] at hx <;> simp at hx
    | _ => simp [renV] at hx
  | @slice m k r o l c hm =>
    intro v hx hb
    cases v with
    | slice a l' c' =>
      cases a with
      | none => simp [renV] at hx
      | some a =>
        obtain ⟨m', k', sp⟩ := a
        simp only [renV, Value.slice.injEq, Option.some.injEq, Addr.mk.injEq] at hx
        obtain ⟨⟨rfl, rfl, rfl⟩, rfl, rfl⟩ := hx
        simp only [bdV, decide_eq_true_eq] at hb
        rw [← Nat.add_assoc]
        exact .slice (by simp only [resV, if_pos hb, hm, Option.map_some])
    | pointer a => cases a <;> simp [renV] at hx
    | map a => rcases renV_map_cases f a with ⟨h, _⟩ | ⟨k, _, _, h⟩ | h <;> rw [h] at hx <;> simp at hx
    | _ => simp [renV] at hx
  | @wild m k s a =>
    intro v hx hb
    cases v with
    | slice a l' c' =>
      cases a with
      | none => simp [renV] at hx
      | some a =>
        obtain ⟨m', k', sp⟩ := a
        simp only [renV, Value.slice.injEq, Option.some.injEq, Addr.mk.injEq] at hx
        obtain ⟨⟨rfl, rfl, rfl⟩, rfl, rfl⟩ := hx
        exact .wild
    | pointer a => cases a <;> simp [renV] at hx
    | map a => rcases renV_map_cases f a with ⟨h, _⟩ | ⟨k, _, _, h⟩ | h <;> rw [h] at hx <;> simp at hx
    | _ => simp [renV] at hx
  | @map m r hm =>
    intro v hx hb
    cases v with
    | map a =>
      rcases renV_map_cases f a with ⟨h, _⟩ | ⟨k, rfl, h0, h⟩ | h
      · rw [h] at hx; simp at hx
      · rw [h] at hx
        simp only [Value.map.injEq, Option.some.injEq] at hx
        subst hx
        simp only [bdV, decide_eq_true_eq] at hb
        exact .map (by simp only [resV, if_pos hb, hm, Option.map_some, h0])
      · rw [h] at hx; simp at hx
    | pointer a => cases a <;> simp [renV] at hx
    | slice a l c => cases a <;> simp [renV] at hx
    | _ => simp [renV] at hx
  | @func fn a a' c c' h1 h2 h3 h4 ih1 ih2 =>
    intro v hx hb
    cases v with
    | func fn0 a0 c0 =>
      simp only [renV, Value.func.injEq] at hx
      obtain ⟨rfl, rfl, rfl⟩ := hx
      simp only [bdV, Bool.and_eq_true] at hb
      exact .func (by rw [← h1, renA_size]) (arr (fun i v v' x y => ih1 i v v' x y) hb.1) (by rw [← h3, renA_size]) (arr (fun i v v' x y => ih2 i v v' x y) hb.2)
    | pointer a => cases a <;> simp [renV] at hx
    | slice a l c => cases a <;> simp [renV] at hx
    | map a => rcases renV_map_cases f a with ⟨h, _⟩ | ⟨k, _, _, h⟩ | h <;> rw [h] at hx <;> simp at hx
    | _ => simp [renV] at hx
  | @agg c c' h1 h2 ih =>
    intro v hx hb
    cases v with
    | agg c0 =>
      simp only [renV, Value.agg.injEq] at hx
      subst hx
      simp only [bdV] at hb
      exact .agg (by rw [← h1, renA_size]) (arr (fun i v v' x y => ih i v v' x y) hb)
    | pointer a => cases a <;> simp [renV] at hx
    | slice a l c => cases a <;> simp [renV] at hx
    | map a => rcases renV_map_cases f a with ⟨h, _⟩ | ⟨k, _, _, h⟩ | h <;> rw [h] at hx <;> simp at hx
    | _ => simp [renV] at hx
  | @tuple c c' h1 h2 ih =>
    intro v hx hb
    cases v with
    | tuple c0 =>
      simp only [renV, Value.tuple.injEq] at hx
      subst hx
      simp only [bdV] at hb
      exact .tuple (by rw [← h1, renA_size]) (arr (fun i v v' x y => ih i v v' x y) hb)
    | pointer a => cases a <;> simp [renV] at hx
    | slice a l c => cases a <;> simp [renV] at hx
    | map a => rcases renV_map_cases f a with ⟨h, _⟩ | ⟨k, _, _, h⟩ | h <;> rw [h] at hx <;> simp at hx
    | _ => simp [renV] at hx

/-- What is known of the blocks that a call reads: the callee's block k is a window of the caller's block (f k).1, that begins at (f k).2. -/
def HasR (h : Nat → Option Blk) (f : Nat → Nat × Nat) (hp : List (Nat × List Value)) : Prop :=
  ∀ x ∈ hp, ∃ c t own, h (f x.1).1 = some (.cells c t own) ∧ ∀ i v, x.2[i]? = some v → c[(f x.1).2 + i]? = some v

/-- A FUNCTION THAT READS: called with these, where its slices' blocks hold what hp says, it returns v, and turns nothing that was there. -/
structure RO (g : FuncId) (vs : List Value) (hp : List (Nat × List Value)) (v : Value) : Prop where
  good : goodF g = true
  res : plain v = true
  calls : ∀ (M : Nat → Prop) (ρ : Nat → Option (Nat × Nat)) (h : Nat → Option Blk) (w : World) (f : Nat → Nat × Nat) (vs' : List Value), HasR h f hp → RH M ρ h w → RelL ρ (renL f vs) vs' → Calls P g vs'.toArray w (fun e w' => e = .returned v ∧ Below w.heap.size w w')

def roB (hp : List (Nat × List Value)) : List (Nat × Blk) := hp.map fun x => (x.1, .cells x.2 0 false)
theorem roB_get : ∀ {hp : List (Nat × List Value)} {m : Nat} {b : Blk}, updH (fun _ => none) (roB hp) m = some b → ∃ x ∈ hp, x.1 = m ∧ b = .cells x.2 0 false
  | [], m, b, hm => by cases hm
  | x :: hp, m, b, hm => by
    simp only [roB, List.map_cons, updH] at hm
    by_cases e : m = x.1
    · subst e
      rw [upd_same] at hm
      cases hm
      exact ⟨x, by simp, rfl, rfl⟩
    · rw [upd_ne _ _ e] at hm
      obtain ⟨y, h1, h2, h3⟩ := roB_get hm
      exact ⟨y, by simp [h1], h2, h3⟩

/-- FROM THE BODY: a function that reads. Its blocks' names are those of hp, below n. -/
theorem ro_of {g N : Nat} {fn : Func} {c : Code} {vs : List Value} {v : Value} (hp : List (Nat × List Value)) (n : Nat) (hf : P.funcs[g]? = some fn) (hb : fn.body = some c) (hn : fn.ntmps = N) (hg : goodF g = true) (hN : vs.length ≤ N) (hv : plain v = true)
    (hbd : bdL n vs = true) (hpn : ∀ x ∈ hp, x.1 < n) (hpl : ∀ x ∈ hp, plainL x.2 = true)
    (h : VC (B := 0) N c (fun e s' => (e = .normal ∨ e = .ret) ∧ vresult s' fn.results.toList = some v) ⟨enter vs, updH (fun _ => none) (roB hp), n⟩) : RO g vs hp v := by
  refine ⟨hg, hv, fun M ρ h0 w f vs' hR hH hrel => ?_⟩
  refine calls_of_wp hf hb ?_
  rw [hn]
  have hrel' : RelL (resV ρ f n) vs vs' := by
    refine ⟨?_, fun i x x' hx hx' => ?_⟩
    · rw [← hrel.1, show ∀ l, (renL f l).length = l.length from fun l => by simpa [renA] using renA_size f ⟨l⟩]
    · exact Rel.ren (hrel.2 i _ x' (by rw [renL_get, hx]; rfl) hx') x rfl (bdL_get hbd hx)
  have hH' : RH (fun r => w.heap.size ≤ r) (resV ρ f n) (updH (fun _ => none) (roB hp)) w := by
    refine ⟨fun m b hm => ?_, fun m m' b b' r o r' o' hm _ _ hown => ?_, fun r hr => hr⟩
    · obtain ⟨x, hx, rfl, rfl⟩ := roB_get hm
      obtain ⟨c, t, own, h1, hc⟩ := hR x hx
      obtain ⟨r, o, h2, h3, _⟩ := hH.blk _ _ h1
      refine ⟨r, o + (f x.1).2, by simp only [resV, if_pos (hpn x hx), h2, Option.map_some], ?_, fun h => by cases h⟩
      have hpv : ∀ {i : Nat} {v : Value}, x.2[i]? = some v → plain v = true := fun {i v} hv => (plainL_iff _).1 (hpl x hx) v (List.mem_of_getElem? hv)
      cases own with
      | true =>
        obtain ⟨c', h5, h6, h7⟩ := h3
        refine ⟨c', t, (0, 0), h5, fun i v hv => ?_⟩
        have h8 := hc i v hv
        obtain ⟨hlt, _⟩ := List.getElem?_eq_some_iff.1 h8
        have hlt' : (f x.1).2 + i < c'.toList.length := by rw [← h7.1]; exact hlt
        have h9 := h7.2 _ v (c'.toList[(f x.1).2 + i]) h8 (List.getElem?_eq_getElem hlt')
        refine ⟨v, ?_, .plain (hpv hv)⟩
        rw [h6, Nat.zero_add, ← h9.eq_of_plain (hpv hv)]
        simp
      | false =>
        obtain ⟨c', t', fz, h5, h6⟩ := h3
        refine ⟨c', t', fz, h5, fun i v hv => ?_⟩
        obtain ⟨v', h7, h8⟩ := h6 _ v (hc i v hv)
        exact ⟨v', by rw [Nat.add_assoc]; exact h7, by rw [h8.eq_of_plain (hpv hv)]; exact .plain (hpv hv)⟩
    · obtain ⟨x, hx, rfl, rfl⟩ := roB_get hm
      cases hown
  have hrr := enter_rr (M := fun r => w.heap.size ≤ r) (N := N) (n := n) (h := updH (fun _ => none) (roB hp)) (w := w) hrel' hN hH' (fun m hm => if_neg (by omega))
  refine wp_mono (h _ _ _ _ _ hrr) ?_
  rintro e a' w' ⟨ρ', s', h1, h2, h3, h4⟩
  obtain ⟨v', h5, h6⟩ := vresult_sound h2 h4
  rw [h6.eq_of_plain hv] at h5
  rcases h3 with rfl | rfl
  · exact ⟨h2.defers, v, h5, rfl, kept_below h2.kept⟩
  · exact ⟨h2.defers, v, h5, rfl, kept_below h2.kept⟩

theorem sp_ro {o : Oper} {m : Nat} {ev : Operand → Value} {h : Nat → Option Blk} {fo : Operand} {args : Array Operand} {ats : Array TypeId} {g : FuncId} {v : Value} {vs : List Value} {hp : List (Nat × List Value)} (f : Nat → Nat × Nat)
    (ho : o.op = .call { callee := .value fo, args := args, argTypes := ats }) (hf : ev fo = .func (.func g) #[] #[]) (hro : RO g vs hp v) (hvs : args.toList.map ev = renL f vs) (hR : HasR h f hp) : SpOk o m ev h (hp.map fun x => (f x.1).1) (fun v' u => v' = v ∧ u = []) := by
  intro M ρ h' w a hh hev hH _
  have h1 : a.eval fo = .func (.func g) #[] #[] := by
    have := hev fo (by rw [ho]; simp [Op.operands, Call.operands])
    rw [hf] at this
    exact this.eq_of_plain rfl
  have h2 : RelL ρ (renL f vs) (args.toList.map a.eval) := by
    have hr := relA_map (ρ := ρ) (ev := ev) (a := a) (xs := args) (fun x hx => hev x (by rw [ho]; simp [Op.operands, Call.operands, hx]))
    rw [← hvs]
    exact ⟨by simp, fun i v v' h1 h2 => hr.2 i v v' (by simpa using h1) (by simpa using h2)⟩
  unfold Oper.wp
  have hrun : (execOp a.eval o).run P w = .ok (.enter g (args.map a.eval)) w := by
    simp only [execOp, ho, resolve, h1, Sem.run_bind, Deferred.ofValue, Sem.run_pure, Result.andThen_ok, invoke, Array.empty_append, Array.append_empty, callFunc_run hro.good]
  rw [hrun]
  have hR' : HasR h' f hp := by
    intro x hx
    obtain ⟨c, t, own, h3, h4⟩ := hR x hx
    exact ⟨c, t, own, by rw [hh _ (List.mem_map.2 ⟨x, hx, rfl⟩)]; exact h3, h4⟩
  have hc := hro.calls M ρ h' w f (args.toList.map a.eval) hR' hH h2
  rw [← Array.toList_map, Array.toArray_toList] at hc
  refine hc.mono ?_
  rintro e w' ⟨rfl, hb⟩
  refine ⟨v, v, [], ρ, ⟨rfl, rfl⟩, rfl, Ext.refl _, .plain hro.res, ⟨fun k b hk => ?_, hH.inj, fun r hr => hH.new r (Nat.le_trans hb.size hr)⟩, ⟨hb.os, hb.tape, hb.output, hb.size, fun r hr => hb.block r ?_⟩, fun x hx => (by cases hx), fun k hk _ => hk⟩
  · obtain ⟨r, o', h3, h4, h5⟩ := hH.blk k b hk
    exact ⟨r, o', h3, by rw [hb.block r (hH.lt hk h3)]; exact h4, h5⟩
  · rcases Nat.lt_or_ge r w.heap.size with hlt | hge
    · exact hlt
    · exact absurd (hH.new r hge) hr

/-- A call of a function that reads. -/
theorem run_ro {ops : Array Oper} {base i : Nat} {o : Oper} {rest : List Oper} {t : Nat → Value} {h : Nat → Option Blk} {n : Nat} {K : St → Prop} {fo : Operand} {args : Array Operand} {ats : Array TypeId} {g : FuncId} {v : Value} {vs : List Value} {hp : List (Nat × List Value)} (f : Nat → Nat × Nat)
    (hro : RO g vs hp v) (hR : HasR h f hp) (ho : o.op = .call { callee := .value fo, args := args, argTypes := ats }) (ha : args.toList.map (evT t) = renL f vs) (hw : wantV ops o t = some true) (hf : evT t fo = .func (.func g) #[] #[])
    (k : vgo ops base (i + 1) rest ⟨putT t o.dst v, h, n⟩ K) : vgo ops base i (o :: rest) ⟨t, h, n⟩ K := by
  rw [evT_eq t h n] at ha hf
  have hv : vex (⟨t, h, n⟩ : St).ev h o.op = none := by rw [ho]; rfl
  have hk : kd o.op = .sp := by rw [ho]; rfl
  unfold vgo
  simp only [hw, hv]
  refine ⟨hk, _, _, sp_ro f ho hf hro ha hR, ⟨v, [], rfl, rfl⟩, ?_⟩
  rintro v' u ⟨rfl, rfl⟩
  rw [app_putT]
  exact k

theorem runD_ro {ops : Array Oper} {U : List (Nat × Nat)} {base i : Nat} {o : Oper} {rest : List Oper} {log : Log} {t : Nat → Value} {h : Nat → Option Blk} {n : Nat} {K : St → Prop} {fo : Operand} {args : Array Operand} {ats : Array TypeId} {g : FuncId} {v : Value} {vs : List Value} {hp : List (Nat × List Value)} (f : Nat → Nat × Nat)
    (hro : RO g vs hp v) (hR : HasR h f hp) (ho : o.op = .call { callee := .value fo, args := args, argTypes := ats }) (ha : args.toList.map (evT t) = renL f vs) (hw : wantV ops o t = some true) (hf : evT t fo = .func (.func g) #[] #[]) (hc : chkB U log i (hp.map fun x => (f x.1).1) [] = true)
    (k : W ops U base (i + 1) rest ((i, hp.map fun x => (f x.1).1, []) :: log) (putT t o.dst v) h n K) : W ops U base i (o :: rest) log t h n K := by
  intro log' hl
  rw [evT_eq t h n] at ha hf
  have hv : vex (⟨t, h, n⟩ : St).ev h o.op = none := by rw [ho]; rfl
  have hk : kd o.op = .sp := by rw [ho]; rfl
  unfold vgoD
  simp only [hw, hv]
  refine ⟨hk, _, _, sp_ro f ho hf hro ha hR, ⟨v, [], rfl, rfl⟩, ?_⟩
  rintro v' u ⟨rfl, rfl⟩
  refine ⟨hl.chk (chk_of_B hc), ?_⟩
  rw [app_putT]
  exact k _ (hl.cons _)

end Go.Proofs.Ytdfkcijholopoaa.Vm
namespace Go.Proofs.Ytdfkcijholopoaa.Vm
open Go Go.RowKit
set_option linter.unusedSimpArgs false

def VCr {B : Nat} (N : Nat) (c : Code) (Q : Exit → St → Prop) : Nat → St → Prop
  | 0, _ => False
  | n + 1, s => VC (B := B) N c (fun e s' => match e with | .normal => VCr (B := B) N c Q n s' | e => Q e s') s

/-- A loop of at most n rounds, walked round by round. -/
theorem vc_rounds {B N : Nat} {c : Code} {Q : Exit → St → Prop} {s : St} (n : Nat) (h : VCr (B := B) N c Q n s) : VC (B := B) N (.loop c) Q s := by
  intro M w0 ρ a w hr
  refine wp_loop_rounds n ?_
  have key : ∀ (n : Nat) (s : St) (ρ1 : Nat → Option (Nat × Nat)) (a : Act) (w : World), ExtB B ρ ρ1 → RR M w0 N (fun m => s.n ≤ m) ρ1 s a w → VCr (B := B) N c Q n s →
      Code.rounds P c (fun e a' w' => ∃ ρ' s', ExtB B ρ ρ' ∧ RR M w0 N (fun m => s'.n ≤ m) ρ' s' a' w' ∧ Q e s') n a w := by
    intro n
    induction n with
    | zero => intro s ρ1 a w _ _ h; exact h.elim
    | succ n ih =>
      intro s ρ1 a w he hr h
      refine wp_mono (h M w0 ρ1 a w hr) ?_
      rintro e a' w' ⟨ρ2, s2, h4, h5, h6⟩
      cases e with
      | normal => exact ih s2 ρ2 a' w' (he.trans h4) h5 h6
      | _ => exact ⟨ρ2, s2, he.trans h4, h5, h6⟩
  exact key n s ρ a w (ExtB.refl _) hr h

theorem setAt_one {n k : Nat} {c : List Value} {v : Value} (hz : n = 1) (ho : v.oneCell' = true) (hna : ∀ a, v ≠ .agg a) (hl : k < c.length) : setAt n c k v = some (c.set k v) := by
  subst hz
  cases v with
  | agg a => exact absurd rfl (hna a)
  | _ => simp [setAt, ho, hl]
section
variable {ev : Operand → Value} {h : Nat → Option Blk}
theorem vex_ixs {t : Nat} {x i : Operand} {m k len cap : Nat} {kk : IntKind} {n : Int} {j e : Nat} {ag : Bool} {z : List Value} (hx : ev x = .slice (some ⟨m, k, none⟩) len cap) (hi : ev i = .int kk n) (hn : n = j) (hj : j < len) (hs : sl t = some e) (ht : ty e = some (ag, z)) :
    vex ev h (.indexAddr t x i) = some (.val (.pointer (some ⟨m, k + j * z.length, none⟩))) := by
  subst hn
  simp only [vex, hx, hi, hs, ht, vindex]
  rw [if_pos ⟨by omega, by omega⟩]
  rfl
theorem vex_ixa {t : Nat} {x i : Operand} {m k len : Nat} {kk : IntKind} {n : Int} {j e : Nat} {ag : Bool} {z : List Value} (hx : ev x = .pointer (some ⟨m, k, none⟩)) (hi : ev i = .int kk n) (hn : n = j) (hj : j < len) (hs : arr t = some (len, e)) (ht : ty e = some (ag, z)) :
    vex ev h (.indexAddr t x i) = some (.val (.pointer (some ⟨m, k + j * z.length, none⟩))) := by
  subst hn
  simp only [vex, hx, hi, hs, ht, vindex]
  rw [if_pos ⟨by omega, by omega⟩]
  rfl
theorem vex_ixv {t : Nat} {x i : Operand} {cs : Array Value} {len : Nat} {kk : IntKind} {n : Int} {j e : Nat} {z : List Value} {v : Value} (hx : ev x = .agg cs) (hi : ev i = .int kk n) (hn : n = j) (hj : j < len) (hs : arr t = some (len, e)) (ht : ty e = some (false, z)) (hv : cs.toList[j]? = some v) :
    vex ev h (.index t x i) = some (.val v) := by
  subst hn
  simp only [vex, hx, hi, hs, ht]
  rw [if_pos ⟨by omega, by omega⟩]
  simp [hv] at *
theorem vex_ld1 {t : Nat} {x : Operand} {m k k' : Nat} {c : List Value} {tt : Nat} {own : Bool} {z : List Value} {v : Value} (hx : ev x = .pointer (some ⟨m, k, none⟩)) (hk : k = k') (hh : h m = some (.cells c tt own)) (ht : ty t = some (false, z)) (hv : c[k']? = some v) :
    vex ev h (.load t x) = some (.rd m v) := by
  subst hk
  simp only [vex, hx, ht, hh, partAt, hv]
  rfl
theorem vex_ldn {t : Nat} {x : Operand} {m k k' : Nat} {c : List Value} {tt : Nat} {own : Bool} {z : List Value} (hx : ev x = .pointer (some ⟨m, k, none⟩)) (hk : k = k') (hh : h m = some (.cells c tt own)) (ht : ty t = some (true, z)) (hv : k' + z.length ≤ c.length) :
    vex ev h (.load t x) = some (.rd m (.agg ((c.drop k').take z.length).toArray)) := by
  subst hk
  simp only [vex, hx, ht, hh, partAt]
  split
  · rename_i hc
    obtain ⟨rfl, hc⟩ := hc
    simp only [Option.map_some, Option.some.injEq, Ef.rd.injEq, true_and]
    rw [List.drop_zero, ← hc, List.take_length]
  · rfl
theorem vex_st1 {t : Nat} {x y : Operand} {m k k' : Nat} {c : List Value} {tt : Nat} {ag : Bool} {z : List Value} {v : Value} (hx : ev x = .pointer (some ⟨m, k, none⟩)) (hk : k = k') (hh : h m = some (.cells c tt true)) (ht : ty t = some (ag, z)) (hz : z.length = 1) (hv : ev y = v) (ho : v.oneCell' = true) (hna : ∀ a, v ≠ .agg a) (hl : k' < c.length) :
    vex ev h (.store t x y) = some (.set m (.cells (c.set k' v) tt true)) := by
  subst hk hv
  simp only [vex, hx, ht, hh]
  rw [setAt_one hz ho hna hl]
  rfl
end

/-! ### What a Go result of two words and an error means -/
def wd (v : Nat) : Value := .agg #[.int .u64 ((v / 2 ^ 64 : Nat) : Int), .int .u64 ((v % 2 ^ 64 : Nat) : Int)]
def err (b : Bool) : Value := .int .i64 (if b then 1 else 0)

end Go.Proofs.Ytdfkcijholopoaa.Vm
namespace Go.Proofs.Ytdfkcijholopoaa.Vm
open Go Go.RowKit
set_option linter.unusedSimpArgs false

/-- As HasR, for cells that may hold addresses: turned by f they are the caller's. -/
def HasC (h : Nat → Option Blk) (f : Nat → Nat × Nat) (hp : List (Nat × List Value)) : Prop :=
  ∀ x ∈ hp, ∃ c t own, h (f x.1).1 = some (.cells c t own) ∧ ∀ i v, x.2[i]? = some v → c[(f x.1).2 + i]? = some (renV f v)

structure RC (g : FuncId) (vs : List Value) (hp : List (Nat × List Value)) (v : Value) : Prop where
  good : goodF g = true
  res : plain v = true
  calls : ∀ (M : Nat → Prop) (ρ : Nat → Option (Nat × Nat)) (h : Nat → Option Blk) (w : World) (f : Nat → Nat × Nat) (vs' : List Value), HasC h f hp → RH M ρ h w → RelL ρ (renL f vs) vs' → Calls P g vs'.toArray w (fun e w' => e = .returned v ∧ Below w.heap.size w w')

theorem rc_of {g N : Nat} {fn : Func} {c : Code} {vs : List Value} {v : Value} (hp : List (Nat × List Value)) (n : Nat) (hf : P.funcs[g]? = some fn) (hb : fn.body = some c) (hn : fn.ntmps = N) (hg : goodF g = true) (hN : vs.length ≤ N) (hv : plain v = true)
    (hbd : bdL n vs = true) (hpn : ∀ x ∈ hp, x.1 < n) (hpl : ∀ x ∈ hp, bdL n x.2 = true)
    (h : VC (B := 0) N c (fun e s' => (e = .normal ∨ e = .ret) ∧ vresult s' fn.results.toList = some v) ⟨enter vs, updH (fun _ => none) (roB hp), n⟩) : RC g vs hp v := by
  refine ⟨hg, hv, fun M ρ h0 w f vs' hR hH hrel => ?_⟩
  refine calls_of_wp hf hb ?_
  rw [hn]
  have hrel' : RelL (resV ρ f n) vs vs' := by
    refine ⟨?_, fun i x x' hx hx' => ?_⟩
    · rw [← hrel.1, show ∀ l, (renL f l).length = l.length from fun l => by simpa [renA] using renA_size f ⟨l⟩]
    · exact Rel.ren (hrel.2 i _ x' (by rw [renL_get, hx]; rfl) hx') x rfl (bdL_get hbd hx)
  have hH' : RH (fun r => w.heap.size ≤ r) (resV ρ f n) (updH (fun _ => none) (roB hp)) w := by
    refine ⟨fun m b hm => ?_, fun m m' b b' r o r' o' hm _ _ hown => ?_, fun r hr => hr⟩
    · obtain ⟨x, hx, rfl, rfl⟩ := roB_get hm
      obtain ⟨c, t, own, h1, hc⟩ := hR x hx
      obtain ⟨r, o, h2, h3, _⟩ := hH.blk _ _ h1
      refine ⟨r, o + (f x.1).2, by simp only [resV, if_pos (hpn x hx), h2, Option.map_some], ?_, fun h => by cases h⟩
      cases own with
      | true =>
        obtain ⟨c', h5, h6, h7⟩ := h3
        refine ⟨c', t, (0, 0), h5, fun i v hv => ?_⟩
        have h8 := hc i v hv
        obtain ⟨hlt, _⟩ := List.getElem?_eq_some_iff.1 h8
        have hlt' : (f x.1).2 + i < c'.toList.length := by rw [← h7.1]; exact hlt
        have h9 := h7.2 _ _ (c'.toList[(f x.1).2 + i]) h8 (List.getElem?_eq_getElem hlt')
        refine ⟨c'.toList[(f x.1).2 + i], ?_, Rel.ren h9 v rfl (bdL_get (hpl x hx) hv)⟩
        rw [h6, Nat.zero_add]
        simp
      | false =>
        obtain ⟨c', t', fz, h5, h6⟩ := h3
        refine ⟨c', t', fz, h5, fun i v hv => ?_⟩
        obtain ⟨v', h7, h8⟩ := h6 _ _ (hc i v hv)
        exact ⟨v', by rw [Nat.add_assoc]; exact h7, Rel.ren h8 v rfl (bdL_get (hpl x hx) hv)⟩
    · obtain ⟨x, hx, rfl, rfl⟩ := roB_get hm
      cases hown
  have hrr := enter_rr (M := fun r => w.heap.size ≤ r) (N := N) (n := n) (h := updH (fun _ => none) (roB hp)) (w := w) hrel' hN hH' (fun m hm => if_neg (by omega))
  refine wp_mono (h _ _ _ _ _ hrr) ?_
  rintro e a' w' ⟨ρ', s', h1, h2, h3, h4⟩
  obtain ⟨v', h5, h6⟩ := vresult_sound h2 h4
  rw [h6.eq_of_plain hv] at h5
  rcases h3 with rfl | rfl
  · exact ⟨h2.defers, v, h5, rfl, kept_below h2.kept⟩
  · exact ⟨h2.defers, v, h5, rfl, kept_below h2.kept⟩

theorem sp_rc {o : Oper} {m : Nat} {ev : Operand → Value} {h : Nat → Option Blk} {fo : Operand} {args : Array Operand} {ats : Array TypeId} {g : FuncId} {cap : Array Value} {v : Value} {vs : List Value} {hp : List (Nat × List Value)} (f : Nat → Nat × Nat)
    (ho : o.op = .call { callee := .value fo, args := args, argTypes := ats }) (hf : ev fo = .func (.func g) #[] cap) (hro : RC g vs hp v) (hvs : args.toList.map ev ++ cap.toList = renL f vs) (hR : HasC h f hp) : SpOk o m ev h (hp.map fun x => (f x.1).1) (fun v' u => v' = v ∧ u = []) := by
  intro M ρ h' w a hh hev hH _
  have h0 := hev fo (by rw [ho]; simp [Op.operands, Call.operands])
  rw [hf] at h0
  obtain ⟨a0, cap', h1, ha0, hcap⟩ := h0.func_inv
  have ha1 : a0 = #[] := by
    have := ha0.1
    simp at this
    exact Array.eq_empty_of_size_eq_zero this.symm
  subst ha1
  have h2 : RelL ρ (renL f vs) (args.toList.map a.eval ++ cap'.toList) := by
    have hr := relA_map (ρ := ρ) (ev := ev) (a := a) (xs := args) (fun x hx => hev x (by rw [ho]; simp [Op.operands, Call.operands, hx]))
    have hl : RelL ρ (args.toList.map ev) (args.toList.map a.eval) := ⟨by simp, fun i v v' h1 h2 => hr.2 i v v' (by simpa using h1) (by simpa using h2)⟩
    have hc2 := hcap.toL
    rw [← hvs]
    refine ⟨by simp [hc2.1, hl.1], fun i v v' h3 h4 => ?_⟩
    rcases Nat.lt_or_ge i (args.toList.map ev).length with hlt | hge
    · rw [List.getElem?_append_left hlt] at h3
      rw [List.getElem?_append_left (by rw [← hl.1]; exact hlt)] at h4
      exact hl.2 i v v' h3 h4
    · rw [List.getElem?_append_right hge] at h3
      rw [List.getElem?_append_right (by rw [← hl.1]; exact hge), ← hl.1] at h4
      exact hc2.2 _ v v' h3 h4
  unfold Oper.wp
  have hrun : (execOp a.eval o).run P w = .ok (.enter g (args.map a.eval ++ cap')) w := by
    simp only [execOp, ho, resolve, h1, Sem.run_bind, Deferred.ofValue, Sem.run_pure, Result.andThen_ok, invoke, Array.empty_append, callFunc_run hro.good]
  rw [hrun]
  have hR' : HasC h' f hp := by
    intro x hx
    obtain ⟨c, t, own, h3, h4⟩ := hR x hx
    exact ⟨c, t, own, by rw [hh _ (List.mem_map.2 ⟨x, hx, rfl⟩)]; exact h3, h4⟩
  have hc := hro.calls M ρ h' w f (args.toList.map a.eval ++ cap'.toList) hR' hH h2
  have harr : (args.toList.map a.eval ++ cap'.toList).toArray = args.map a.eval ++ cap' := by
    rw [← Array.toList_map, ← Array.toList_append]
  rw [harr] at hc
  refine hc.mono ?_
  rintro e w' ⟨rfl, hb⟩
  refine ⟨v, v, [], ρ, ⟨rfl, rfl⟩, rfl, Ext.refl _, .plain hro.res, ⟨fun k b hk => ?_, hH.inj, fun r hr => hH.new r (Nat.le_trans hb.size hr)⟩, ⟨hb.os, hb.tape, hb.output, hb.size, fun r hr => hb.block r ?_⟩, fun x hx => (by cases hx), fun k hk _ => hk⟩
  · obtain ⟨r, o', h3, h4, h5⟩ := hH.blk k b hk
    exact ⟨r, o', h3, by rw [hb.block r (hH.lt hk h3)]; exact h4, h5⟩
  · rcases Nat.lt_or_ge r w.heap.size with hlt | hge
    · exact hlt
    · exact absurd (hH.new r hge) hr

theorem run_rc {ops : Array Oper} {base i : Nat} {o : Oper} {rest : List Oper} {t : Nat → Value} {h : Nat → Option Blk} {n : Nat} {K : St → Prop} {fo : Operand} {args : Array Operand} {ats : Array TypeId} {g : FuncId} {cap : Array Value} {v : Value} {vs : List Value} {hp : List (Nat × List Value)} (f : Nat → Nat × Nat)
    (hro : RC g vs hp v) (hR : HasC h f hp) (ho : o.op = .call { callee := .value fo, args := args, argTypes := ats }) (hf : evT t fo = .func (.func g) #[] cap) (ha : args.toList.map (evT t) ++ cap.toList = renL f vs) (hw : wantV ops o t = some true)
    (k : vgo ops base (i + 1) rest ⟨putT t o.dst v, h, n⟩ K) : vgo ops base i (o :: rest) ⟨t, h, n⟩ K := by
  rw [evT_eq t h n] at ha hf
  have hv : vex (⟨t, h, n⟩ : St).ev h o.op = none := by rw [ho]; rfl
  have hk : kd o.op = .sp := by rw [ho]; rfl
  unfold vgo
  simp only [hw, hv]
  refine ⟨hk, _, _, sp_rc f ho hf hro ha hR, ⟨v, [], rfl, rfl⟩, ?_⟩
  rintro v' u ⟨rfl, rfl⟩
  rw [app_putT]
  exact k
theorem runD_rc {ops : Array Oper} {U : List (Nat × Nat)} {base i : Nat} {o : Oper} {rest : List Oper} {log : Log} {t : Nat → Value} {h : Nat → Option Blk} {n : Nat} {K : St → Prop} {fo : Operand} {args : Array Operand} {ats : Array TypeId} {g : FuncId} {cap : Array Value} {v : Value} {vs : List Value} {hp : List (Nat × List Value)} (f : Nat → Nat × Nat)
    (hro : RC g vs hp v) (hR : HasC h f hp) (ho : o.op = .call { callee := .value fo, args := args, argTypes := ats }) (hf : evT t fo = .func (.func g) #[] cap) (ha : args.toList.map (evT t) ++ cap.toList = renL f vs) (hw : wantV ops o t = some true) (hc : chkB U log i (hp.map fun x => (f x.1).1) [] = true)
    (k : W ops U base (i + 1) rest ((i, hp.map fun x => (f x.1).1, []) :: log) (putT t o.dst v) h n K) : W ops U base i (o :: rest) log t h n K := by
  intro log' hl
  rw [evT_eq t h n] at ha hf
  have hv : vex (⟨t, h, n⟩ : St).ev h o.op = none := by rw [ho]; rfl
  have hk : kd o.op = .sp := by rw [ho]; rfl
  unfold vgoD
  simp only [hw, hv]
  refine ⟨hk, _, _, sp_rc f ho hf hro ha hR, ⟨v, [], rfl, rfl⟩, ?_⟩
  rintro v' u ⟨rfl, rfl⟩
  refine ⟨hl.chk (chk_of_B hc), ?_⟩
  rw [app_putT]
  exact k _ (hl.cons _)
end Go.Proofs.Ytdfkcijholopoaa.Vm
namespace Go.Proofs.Ytdfkcijholopoaa.Vm
open Go Go.RowKit
set_option linter.unusedSimpArgs false

theorem sp_val {o : Oper} {m : Nat} {ev : Operand → Value} {h : Nat → Option Blk} {v : Value} (hx : ∀ (e : Operand → Value) (w : World), (∀ x ∈ o.op.operands, e x = ev x) → (execOp e o).run P w = .ok (.value v) w)
    (hp : ∀ x ∈ o.op.operands, plain (ev x) = true) (hv : plain v = true) : SpOk o m ev h [] (fun v' u => v' = v ∧ u = []) := by
  intro M ρ h' w a _ hev hH _
  have h1 : ∀ x ∈ o.op.operands, a.eval x = ev x := fun x hx => (hev x hx).eq_of_plain (hp x hx)
  unfold Oper.wp
  rw [hx a.eval w h1]
  exact ⟨v, v, [], ρ, ⟨rfl, rfl⟩, rfl, Ext.refl _, .plain hv, hH, Kept.refl _ _, fun x hx => (by cases hx), fun k hk _ => hk⟩

theorem run_val {ops : Array Oper} {base i : Nat} {o : Oper} {rest : List Oper} {t : Nat → Value} {h : Nat → Option Blk} {n : Nat} {K : St → Prop} {v : Value} (hk : kd o.op = .sp) (hv0 : vex (evT t) h o.op = none)
    (hx : ∀ (e : Operand → Value) (w : World), (∀ x ∈ o.op.operands, e x = evT t x) → (execOp e o).run P w = .ok (.value v) w) (hp : ∀ x ∈ o.op.operands, plain (evT t x) = true) (hv : plain v = true) (hw : wantV ops o t = some true)
    (k : vgo ops base (i + 1) rest ⟨putT t o.dst v, h, n⟩ K) : vgo ops base i (o :: rest) ⟨t, h, n⟩ K := by
  rw [evT_eq t h n] at hv0 hx hp
  unfold vgo
  simp only [hw, hv0]
  refine ⟨hk, _, _, sp_val hx hp hv, ⟨v, [], rfl, rfl⟩, ?_⟩
  rintro v' u ⟨rfl, rfl⟩
  rw [app_putT]
  exact k
end Go.Proofs.Ytdfkcijholopoaa.Vm
namespace Go.Proofs.Ytdfkcijholopoaa.Vm
open Go Go.RowKit
set_option linter.unusedSimpArgs false

theorem und9 : P.underlying 9 = some .string := by kernel_rfl
theorem und21 : (P.underlying 21).isSome = true := by kernel_rfl
theorem ex_conv9 {o : Oper} {x : Operand} {e : Operand → Value} {w : World} {k : IntKind} {n : Int} (ho : o.op = .convert 21 9 x) (hx : e x = .int k n) : (execOp e o).run P w = .ok (.value (.string (Utf8.encode n))) w := by
  simp only [execOp, ho, hx, Sem.run_bind, run_convert_int_string w 21 9 k n und21 und9, Result.andThen_ok, Sem.run_pure]
theorem ex_add9 {o : Oper} {x y : Operand} {u : TypeId} {e : Operand → Value} {w : World} {a b : ByteArray} (ho : o.op = .binOp .add 9 x y u) (hx : e x = .string a) (hy : e y = .string b) (hs : a.size + b.size < 2 ^ 63) : (execOp e o).run P w = .ok (.value (.string (a ++ b))) w := by
  have h : ¬ ((a.size + b.size : Nat) : Int) > IntKind.i64.max := by
    have e1 : IntKind.i64.max = 2 ^ 63 - 1 := rfl
    rw [e1]; omega
  simp only [execOp, ho, hx, hy, Sem.run_bind, Sem.run_pure, Result.andThen_ok, eqGuard, binOp, Op.stringOp, if_neg h]
  simp [h]
end Go.Proofs.Ytdfkcijholopoaa.Vm
namespace Go.Proofs.Ytdfkcijholopoaa.Vm
open Go Go.RowKit
set_option linter.unusedSimpArgs false

theorem sp_range {o : Oper} {m : Nat} {ev : Operand → Value} {h : Nat → Option Blk} {x : Operand} {s : ByteArray} (ho : o.op = .range 9 x) (hx : ev x = .string s) :
    SpOk o m ev h [] (fun v u => v = .pointer (some ⟨m, 0, none⟩) ∧ u = [(m, .obj (.stringIter s 0))]) := by
  intro M ρ h' w a _ hev hH hm
  have h1 : a.eval x = .string s := by
    have := hev x (by rw [ho]; simp [Op.operands])
    rw [hx] at this
    exact this.eq_of_plain rfl
  have hrun : (execOp a.eval o).run P w = .ok (.value (.pointer (some ⟨w.heap.size, 0, none⟩))) (w.alloc (.stringIter s 0)) := by
    simp only [execOp, ho, h1, Instr.range, Sem.run_bind, run_underlying und9, Result.andThen_ok, Sem.run_pure]
    rfl
  unfold Oper.wp
  rw [hrun]
  refine ⟨.pointer (some ⟨m, 0, none⟩), .pointer (some ⟨w.heap.size, 0, none⟩), [(m, .obj (.stringIter s 0))], _, ⟨rfl, rfl⟩, rfl, Ext.upd hm _, ?_, hH.alloc (b := .obj (.stringIter s 0)) hm ⟨rfl, rfl⟩, Kept.alloc hH.new _, fun x hx => (by simp at hx; exact .inl (by rw [hx])), fun k hk hne => by rw [upd_ne _ _ (by simpa using hne)]; exact hk⟩
  have := Rel.ptr (ρ := upd ρ m (some (w.heap.size, 0))) (m := m) (k := 0) (upd_same _ _ _)
  simpa using this
end Go.Proofs.Ytdfkcijholopoaa.Vm
namespace Go.Proofs.Ytdfkcijholopoaa.Vm
open Go Go.RowKit
set_option linter.unusedSimpArgs false

def putO (w : World) (r : Nat) (ob : Obj) : World := { w with heap := w.heap.setIfInBounds r ob }
theorem putO_other (w : World) (r k : Nat) (ob : Obj) (h : k ≠ r) : (putO w r ob).heap[k]? = w.heap[k]? := by
  simp [putO, Array.getElem?_setIfInBounds, Ne.symm h]
theorem RH.putO {M : Nat → Prop} {ρ : Nat → Option (Nat × Nat)} {h : Nat → Option Blk} {w : World} (hH : RH M ρ h w) {m r : Nat} {b b0 : Blk} (hm : h m = some b0) (h0 : b0.own = true) (hr : ρ m = some (r, 0)) {ob : Obj}
    (hrow : RObj ρ b 0 (putO w r ob).heap[r]?) : RH M ρ (upd h m (some b)) (Vm.putO w r ob) := by
  have hM : M r := by
    obtain ⟨r', o', h1, _, h3⟩ := hH.blk m b0 hm
    rw [hr] at h1; cases h1
    exact h3 h0
  refine ⟨fun k d hk => ?_, fun k k' d d' r1 o1 r2 o2 hk hk' hne hown h1 h2 => ?_, fun q hq => hH.new q (by simpa [Vm.putO] using hq)⟩
  · by_cases e : k = m
    · subst e
      rw [upd_same] at hk
      cases hk
      exact ⟨r, 0, hr, hrow, fun _ => hM⟩
    · rw [upd_ne _ _ e] at hk
      obtain ⟨r', o', h1, h2, h3⟩ := hH.blk k d hk
      have hne : r' ≠ r := fun e' => hH.inj m k b0 d r 0 r' o' hm hk (Ne.symm e) h0 hr h1 e'.symm
      exact ⟨r', o', h1, by rw [putO_other w r r' ob hne]; exact h2, h3⟩
  · by_cases e : k = m
    · subst e
      rw [hr] at h1
      cases h1
      rw [upd_ne _ _ (Ne.symm hne)] at hk'
      exact hH.inj k k' b0 d' r 0 r2 o2 hm hk' hne h0 hr h2
    · rw [upd_ne _ _ e] at hk
      by_cases e' : k' = m
      · subst e'
        rw [hr] at h2
        cases h2
        exact fun e2 => hH.inj k' k b0 d r 0 r1 o1 hm hk (Ne.symm hne) h0 hr h1 e2.symm
      · rw [upd_ne _ _ e'] at hk'
        exact hH.inj k k' d d' r1 o1 r2 o2 hk hk' hne hown h1 h2
theorem RH.obj {M : Nat → Prop} {ρ : Nat → Option (Nat × Nat)} {h : Nat → Option Blk} {w : World} (hH : RH M ρ h w) {m : Nat} {ob : Obj} (hm : h m = some (.obj ob)) : ∃ r, ρ m = some (r, 0) ∧ w.heap[r]? = some ob ∧ M r := by
  obtain ⟨r, o, h1, ⟨h2, h3⟩, h4⟩ := hH.blk m _ hm
  subst h3
  exact ⟨r, h1, h2, h4 rfl⟩
theorem sp_next {o : Oper} {m k : Nat} {ev : Operand → Value} {h : Nat → Option Blk} {x : Operand} {s : ByteArray} {pos : Nat} (ho : o.op = .next x true) (hx : ev x = .pointer (some ⟨k, 0, none⟩)) (hk : h k = some (.obj (.stringIter s pos))) (hp : pos < s.size) :
    SpOk o m ev h [k] (fun v u => v = .tuple #[.bool true, goInt pos, .int .i32 (Utf8.decode s pos).1] ∧ u = [(k, .obj (.stringIter s (pos + (Utf8.decode s pos).2)))]) := by
  intro M ρ h' w a hh hev hH hm
  obtain ⟨r, h1, h2, h3⟩ := hH.obj (show h' k = _ from (hh k (by simp)).trans hk)
  have h4 := hev x (by rw [ho]; simp [Op.operands])
  rw [hx] at h4
  obtain ⟨r', o', h5, h6⟩ := h4.ptr_inv
  rw [h1] at h5
  cases h5
  have hrun : (execOp a.eval o).run P w = .ok (.value (.tuple #[.bool true, goInt pos, .int .i32 (Utf8.decode s pos).1])) (putO w r (.stringIter s (pos + (Utf8.decode s pos).2))) := by
    simp only [execOp, ho, h6, Instr.next, getObj, setObj, Sem.run_bind, Sem.run, h2, Result.andThen, hp, if_true]
    rfl
  unfold Oper.wp
  rw [hrun]
  refine ⟨_, _, [(k, .obj (.stringIter s (pos + (Utf8.decode s pos).2)))], ρ, ⟨rfl, rfl⟩, rfl, Ext.refl _, .plain rfl, RH.putO hH ((hh k (by simp)).trans hk) rfl h1 ⟨?_, rfl⟩, ⟨rfl, rfl, rfl, by simp [putO], fun q hq => putO_other w r q _ fun e => hq (e ▸ h3)⟩, fun x hx => (by simp at hx; exact .inr (by rw [hx, h1]; simp)), fun k hk _ => hk⟩
  have hlt : r < w.heap.size := (Array.getElem?_eq_some_iff.1 h2).1
  simp [putO, hlt]
end Go.Proofs.Ytdfkcijholopoaa.Vm
namespace Go.Proofs.Ytdfkcijholopoaa.Vm
open Go Go.RowKit
set_option linter.unusedSimpArgs false

theorem run_sp {ops : Array Oper} {base i : Nat} {o : Oper} {rest : List Oper} {t : Nat → Value} {h : Nat → Option Blk} {n : Nat} {K : St → Prop} {rd : List Nat} {Out : Value → List (Nat × Blk) → Prop} (hs : SpOk o (base + i) (evT t) h rd Out) (hk : kd o.op = .sp) (hv : vex (evT t) h o.op = none) (hw : wantV ops o t = some true)
    (hne : ∃ v u, Out v u) (k : ∀ v u, Out v u → vgo ops base (i + 1) rest ⟨putT t o.dst v, updL h u, bump n u⟩ K) : vgo ops base i (o :: rest) ⟨t, h, n⟩ K := by
  rw [evT_eq t h n] at hs hv
  unfold vgo
  simp only [hw, hv]
  refine ⟨hk, _, _, hs, hne, fun v u hu => ?_⟩
  rw [app_putT]
  exact k v u hu
theorem sp_over {o : Oper} {m k : Nat} {ev : Operand → Value} {h : Nat → Option Blk} {x : Operand} {s : ByteArray} {pos : Nat} (ho : o.op = .next x true) (hx : ev x = .pointer (some ⟨k, 0, none⟩)) (hk : h k = some (.obj (.stringIter s pos))) (hp : ¬ pos < s.size) :
    SpOk o m ev h [k] (fun v u => v = .tuple #[.bool false] ∧ u = []) := by
  intro M ρ h' w a hh hev hH hm
  obtain ⟨r, h1, h2, h3⟩ := hH.obj (show h' k = _ from (hh k (by simp)).trans hk)
  have h4 := hev x (by rw [ho]; simp [Op.operands])
  rw [hx] at h4
  obtain ⟨r', o', h5, h6⟩ := h4.ptr_inv
  rw [h1] at h5
  cases h5
  have hrun : (execOp a.eval o).run P w = .ok (.value (.tuple #[.bool false])) w := by
    simp only [execOp, ho, h6, Instr.next, getObj, Sem.run_bind, Sem.run, h2, Result.andThen, hp, if_false]
    rfl
  unfold Oper.wp
  rw [hrun]
  exact ⟨_, _, [], ρ, ⟨rfl, rfl⟩, rfl, Ext.refl _, .plain rfl, hH, Kept.refl _ _, fun x hx => (by cases hx), fun k hk _ => hk⟩
end Go.Proofs.Ytdfkcijholopoaa.Vm
namespace Go.Proofs.Ytdfkcijholopoaa.Vm
open Go Go.RowKit
set_option linter.unusedSimpArgs false

def bdB (n : Nat) : Blk → Bool
  | .cells c _ _ => bdL n c
  | .obj _ => true

/-- Block b, seen as b0: its names turned by f; a window that begins at off, or the whole (written at will). -/
def SubB (f : Nat → Nat × Nat) (off : Nat) : Blk → Blk → Prop
  | .cells c0 t0 true, .cells c t own => off = 0 ∧ own = true ∧ t0 = t ∧ c = renL f c0
  | .cells c0 _ false, .cells c _ _ => ∀ i v, c0[i]? = some v → c[off + i]? = some (renV f v)
  | .obj o0, .obj o => off = 0 ∧ o0 = o
  | _, _ => False

theorem SubB.own {f : Nat → Nat × Nat} {off : Nat} {b0 b : Blk} (h : SubB f off b0 b) (ho : b0.own = true) : b.own = true ∧ off = 0 := by
  cases b0 with
  | cells c0 t0 own0 =>
    cases b with
    | cells c t own =>
      simp only [Blk.own] at ho
      subst ho
      exact ⟨h.2.1, h.1⟩
    | obj o => cases own0 <;> exact h.elim
  | obj o0 =>
    cases b with
    | cells c t own => exact h.elim
    | obj o => exact ⟨rfl, h.1⟩

theorem RObj.sub {ρ : Nat → Option (Nat × Nat)} {f : Nat → Nat × Nat} {K off o : Nat} {b0 b : Blk} {x : Option Obj} (hr : RObj ρ b o x) (hs : SubB f off b0 b) (hb : bdB K b0 = true) : RObj (resV ρ f K) b0 (o + off) x := by
  cases b0 with
  | cells c0 t0 own0 =>
    cases b with
    | obj ob => cases own0 <;> exact hs.elim
    | cells c t own =>
      simp only [bdB] at hb
      cases own0 with
      | true =>
        obtain ⟨rfl, rfl, rfl, rfl⟩ := hs
        obtain ⟨c', h1, rfl, h3⟩ := hr
        refine ⟨c', h1, rfl, ?_, fun i v v' hv hv' => ?_⟩
        · rw [← h3.1]
          simpa [renA] using (renA_size f ⟨c0⟩).symm
        · exact Rel.ren (h3.2 i _ v' (by rw [renL_get, hv]; rfl) hv') v rfl (bdL_get hb hv)
      | false =>
        cases own with
        | true =>
          obtain ⟨c', h5, rfl, h7⟩ := hr
          refine ⟨c', t, (0, 0), h5, fun i v hv => ?_⟩
          have h8 := hs i v hv
          obtain ⟨hlt, _⟩ := List.getElem?_eq_some_iff.1 h8
          have hlt' : off + i < c'.toList.length := by rw [← h7.1]; exact hlt
          have h9 := h7.2 _ _ (c'.toList[off + i]) h8 (List.getElem?_eq_getElem hlt')
          refine ⟨c'.toList[off + i], ?_, Rel.ren h9 v rfl (bdL_get hb hv)⟩
          rw [Nat.zero_add]
          simp
        | false =>
          obtain ⟨c', t', fz, h5, h6⟩ := hr
          refine ⟨c', t', fz, h5, fun i v hv => ?_⟩
          obtain ⟨v', h7, h8⟩ := h6 _ _ (hs i v hv)
          exact ⟨v', by rw [Nat.add_assoc]; exact h7, Rel.ren h8 v rfl (bdL_get hb hv)⟩
  | obj o0 =>
    cases b with
    | cells c t own => exact hs.elim
    | obj ob =>
      obtain ⟨rfl, rfl⟩ := hs
      exact hr

theorem isJ_ren (f : Nat → Nat × Nat) (v : Value) : isJ (renV f v) = isJ v := by
  cases v with
  | pointer a => cases a <;> rfl
  | slice a l c => cases a <;> rfl
  | map a => rcases renV_map_cases f a with ⟨h, _⟩ | ⟨k, _, _, h⟩ | h <;> rw [h] <;> rfl
  | _ => rfl

theorem updT_mem {t : Nat → Value} {k : Nat} : ∀ (l : List (Nat × Value)), (∃ x ∈ l, x.1 = k ∧ updT t l k = x.2) ∨ updT t l k = t k
  | [] => .inr rfl
  | (j, v) :: l => by
    by_cases e : k = j
    · subst e
      exact .inl ⟨(k, v), by simp, rfl, upd_same _ _ _⟩
    · rw [updT, upd_ne _ _ e]
      rcases updT_mem (t := t) l with ⟨x, h1, h2, h3⟩ | h
      · exact .inl ⟨x, by simp [h1], h2, h3⟩
      · exact .inr h
theorem updH_mem {k : Nat} {b : Blk} : ∀ {l : List (Nat × Blk)}, updH (fun _ => none) l k = some b → (k, b) ∈ l
  | [], h => by cases h
  | (j, c) :: l, h => by
    rw [updH] at h
    by_cases e : k = j
    · subst e
      rw [upd_same] at h
      cases h
      simp
    · rw [upd_ne _ _ e] at h
      exact List.mem_cons_of_mem _ (updH_mem h)

/-- The state of which this is known, and nothing else. -/
def can (lt : List (Nat × Value)) (lh : List (Nat × Blk)) (K : Nat) : St := ⟨updT (fun _ => junk) lt, updH (fun _ => none) lh, K⟩
/-- Whatever stands for s stands for s' (under other names, but for those below B). -/
def Fg (B : Nat) (s s' : St) : Prop :=
  ∀ (M : Nat → Prop) (w0 : World) (N : Nat) (ρ : Nat → Option (Nat × Nat)) (a : Act) (w : World), RR M w0 N (fun m => s.n ≤ m) ρ s a w → ∃ ρ', ExtB B ρ ρ' ∧ RR M w0 N (fun m => s'.n ≤ m) ρ' s' a w
theorem Fg.refl (B : Nat) (s : St) : Fg B s s := fun _ _ _ ρ _ _ h => ⟨ρ, ExtB.refl _, h⟩
theorem Fg.trans {B : Nat} {s s' s2 : St} (h : Fg B s s') (k : Fg B s' s2) : Fg B s s2 := fun M w0 N ρ a w hr =>
  let ⟨ρ', h1, h2⟩ := h M w0 N ρ a w hr
  let ⟨ρ2, h3, h4⟩ := k M w0 N ρ' a w h2
  ⟨ρ2, h1.trans h3, h4⟩

theorem fg_shift {B : Nat} (g : Nat → Nat) {s : St} (lt : List (Nat × Value)) (lh : List (Nat × Blk)) (K : Nat) (hB : B ≤ K) (hg : ∀ m, m < B → g m = m)
    (ht : ∀ x ∈ lt, s.t x.1 = renV (fun k => (g k, 0)) x.2 ∧ bdV K x.2 = true)
    (hh : ∀ x ∈ lh, (∃ b, s.h (g x.1) = some b ∧ SubB (fun k => (g k, 0)) 0 x.2 b) ∧ bdB K x.2 = true ∧ x.1 < K)
    (hi : ∀ x ∈ lh, ∀ y ∈ lh, x.1 ≠ y.1 → x.2.own = true → g x.1 ≠ g y.1) : Fg B s (can lt lh K) := by
  intro M w0 N ρ a w hr
  refine ⟨resV ρ (fun k => (g k, 0)) K, fun m x hm hx => ?_, hr.size, hr.defers, fun k hk => ?_, ⟨fun m b hm => ?_, fun m m' b b' r o r' o' hm hm' hne hown h1 h2 => ?_, hr.heap.new⟩, fun m hm => if_neg (by simp only [can] at hm; omega), hr.kept⟩
  · simp only [resV]
    rw [if_pos (by omega), hg m hm, hx]
    rfl
  · simp only [can] at hk ⊢
    rcases updT_mem (t := fun _ => junk) (k := k) lt with ⟨x, h1, h2, h3⟩ | h
    · rw [h3] at hk ⊢
      obtain ⟨h4, h5⟩ := ht x h1
      rw [h2] at h4
      have h6 := hr.tmp k (by rw [h4, isJ_ren]; exact hk)
      exact Rel.ren h6 x.2 h4 h5
    · rw [h] at hk
      cases hk
  · have hm' := updH_mem hm
    obtain ⟨⟨b1, h1, h2⟩, h3, h4⟩ := hh _ hm'
    simp only at h1 h2 h3 h4
    obtain ⟨r, o, h5, h6, h7⟩ := hr.heap.blk _ _ h1
    refine ⟨r, o, by simp only [resV, if_pos h4, h5, Option.map_some, Nat.add_zero], ?_, fun ho => h7 (h2.own ho).1⟩
    have := h6.sub h2 h3
    rwa [Nat.add_zero] at this
  · have hx := updH_mem hm
    have hy := updH_mem hm'
    obtain ⟨⟨b1, e1, e2⟩, e3, e4⟩ := hh _ hx
    obtain ⟨⟨b2, d1, d2⟩, d3, d4⟩ := hh _ hy
    simp only at e1 e2 e3 e4 d1 d2 d3 d4
    simp only [resV, if_pos e4] at h1
    simp only [resV, if_pos d4] at h2
    cases hr1 : ρ (g m) with
    | none => rw [hr1] at h1; cases h1
    | some x1 =>
      cases hr2 : ρ (g m') with
      | none => rw [hr2] at h2; cases h2
      | some x2 =>
        rw [hr1] at h1
        rw [hr2] at h2
        simp only [Option.map_some, Option.some.injEq, Prod.mk.injEq] at h1 h2
        obtain ⟨q1, p1⟩ := x1
        obtain ⟨q2, p2⟩ := x2
        simp only at h1 h2
        have := hr.heap.inj _ _ _ _ q1 p1 q2 p2 e1 d1 (hi _ hx _ hy hne hown) (e2.own hown).1 hr1 hr2
        rw [← h1.1, ← h2.1]
        exact this

theorem renV_id (v : Value) : renV (fun k => (k, 0)) v = v := by
  refine Value.rec (motive_1 := fun v => renV (fun k => (k, 0)) v = v) (motive_2 := fun c => renA (fun k => (k, 0)) c = c) (motive_3 := fun l => renL (fun k => (k, 0)) l = l)
        ?_ ?_ ?_ ?_ ?_ ?_ ?_ ?_ ?_ ?_ ?_ ?_ ?_ ?_ ?_ ?_ ?_ ?_ v
  · intro b; rfl
  · intro k n; rfl
  · intro k n; rfl
  · intro k n m; rfl
  · intro s; rfl
  · intro a
    cases a with
    | none => rfl
    | some a => simp only [renV, Nat.zero_add]
  · intro a l c
    cases a with
    | none => rfl
    | some a => simp only [renV, Nat.zero_add]
  · intro r; cases r <;> rfl
  · intro r; rfl
  · intro fn a c iha ihc; simp only [renV, iha, ihc]
  · rfl
  · intro t v _; rfl
  · rfl
  · intro c ih; simp only [renV, ih]
  · intro c ih; simp only [renV, ih]
  · intro l ih; simp only [renA, ih]
  · rfl
  · intro v l ihv ihl; simp only [renL, ihv, ihl]
theorem renL_id (l : List Value) : renL (fun k => (k, 0)) l = l := by
  induction l with
  | nil => rfl
  | cons v l ih => simp only [renL, renV_id, ih]

/-- Block k of h, seen as b. -/
def Sb (h : Nat → Option Blk) (k : Nat) (b : Blk) : Prop := ∃ b1, h k = some b1 ∧ SubB (fun k => (k, 0)) 0 b b1
theorem sb {h : Nat → Option Blk} {k : Nat} {b : Blk} (e : h k = some b) : Sb h k b := by
  refine ⟨b, e, ?_⟩
  cases b with
  | obj o => exact ⟨rfl, rfl⟩
  | cells c t own =>
    cases own with
    | true => exact ⟨rfl, rfl, rfl, (renL_id c).symm⟩
    | false => exact fun i v hv => by rw [renV_id, Nat.zero_add]; exact hv
theorem sb_win {h : Nat → Option Blk} {k : Nat} {c c0 : List Value} {t t0 : TypeId} {own : Bool} (e : h k = some (.cells c t own)) (hw : ∀ (i : Nat) (v : Value), c0[i]? = some v → c[i]? = some v) : Sb h k (.cells c0 t0 false) :=
  ⟨_, e, fun i v hv => by rw [renV_id, Nat.zero_add]; exact hw i v hv⟩
theorem get_app {a b : List Value} : ∀ (i : Nat) (v : Value), a[i]? = some v → (a ++ b)[i]? = some v := fun i v h => by
  rw [List.getElem?_append_left (List.getElem?_eq_some_iff.1 h).1]; exact h
def HasS (h : Nat → Option Blk) : List (Nat × Blk) → Prop
  | [] => True
  | (k, b) :: l => Sb h k b ∧ HasS h l
def bdT (K : Nat) : List (Nat × Value) → Bool
  | [] => true
  | (_, v) :: l => match bdV K v with
    | true => bdT K l
    | false => false
def bdH (K : Nat) : List (Nat × Blk) → Bool
  | [] => true
  | (k, b) :: l => decide (k < K) && (bdB K b && bdH K l)
theorem HasT.mem {t : Nat → Value} : ∀ {l : List (Nat × Value)}, HasT t l → ∀ x ∈ l, t x.1 = x.2
  | [], _, x, hx => by cases hx
  | y :: l, h, x, hx => by
    rcases List.mem_cons.1 hx with rfl | hx
    · exact h.1
    · exact h.2.mem x hx
theorem HasS.mem {t : Nat → Option Blk} : ∀ {l : List (Nat × Blk)}, HasS t l → ∀ x ∈ l, Sb t x.1 x.2
  | [], _, x, hx => by cases hx
  | y :: l, h, x, hx => by
    rcases List.mem_cons.1 hx with rfl | hx
    · exact h.1
    · exact h.2.mem x hx
theorem bdT_mem {K : Nat} : ∀ {l : List (Nat × Value)}, bdT K l = true → ∀ x ∈ l, bdV K x.2 = true
  | [], _, x, hx => by cases hx
  | y :: l, h, x, hx => by
    unfold bdT at h
    split at h
    · rename_i hy
      rcases List.mem_cons.1 hx with rfl | hx
      · exact hy
      · exact bdT_mem h x hx
    · cases h
theorem bdH_mem {K : Nat} : ∀ {l : List (Nat × Blk)}, bdH K l = true → ∀ x ∈ l, x.1 < K ∧ bdB K x.2 = true
  | [], _, x, hx => by cases hx
  | y :: l, h, x, hx => by
    simp only [bdH, Bool.and_eq_true, decide_eq_true_eq] at h
    rcases List.mem_cons.1 hx with rfl | hx
    · exact ⟨h.1, h.2.1⟩
    · exact bdH_mem h.2.2 x hx

theorem fg_focus {B : Nat} {s : St} (lt : List (Nat × Value)) (lh : List (Nat × Blk)) (K : Nat) (hB : B ≤ K) (ht : HasT s.t lt) (hh : HasS s.h lh) (hb : bdT K lt = true) (hb' : bdH K lh = true) : Fg B s (can lt lh K) := by
  refine fg_shift (fun k => k) lt lh K hB (fun _ _ => rfl) (fun x hx => ?_) (fun x hx => ?_) (fun x _ y _ h _ => h)
  · rw [renV_id]
    exact ⟨ht.mem x hx, bdT_mem hb x hx⟩
  · obtain ⟨h1, h2⟩ := bdH_mem hb' x hx
    exact ⟨hh.mem x hx, h2, h1⟩

theorem vc_fg {B N : Nat} {c : Code} {Q : Exit → St → Prop} {s s' : St} (h : Fg B s s') (k : VC (B := B) N c Q s') : VC (B := B) N c Q s := by
  intro M w0 ρ a w hr
  obtain ⟨ρ1, h1, h2⟩ := h M w0 N ρ a w hr
  refine wp_mono (k M w0 ρ1 a w h2) ?_
  rintro e a' w' ⟨ρ', s', h3, h4, h5⟩
  exact ⟨ρ', s', h1.trans h3, h4, h5⟩
/-- The state laid anew. -/
theorem vc_focus {B N : Nat} {c : Code} {Q : Exit → St → Prop} {s : St} (lt : List (Nat × Value)) (lh : List (Nat × Blk)) (K : Nat) (hB : B ≤ K) (ht : HasT s.t lt) (hh : HasS s.h lh) (hb : bdT K lt = true) (hb' : bdH K lh = true)
    (k : VC (B := B) N c Q ⟨updT (fun _ => junk) lt, updH (fun _ => none) lh, K⟩) : VC (B := B) N c Q s := vc_fg (fg_focus lt lh K hB ht hh hb hb') k
theorem vc_post {B N : Nat} {c : Code} {Q : Exit → St → Prop} {s : St} (h : VC (B := B) N c (fun e s => ∃ s', Fg B s s' ∧ Q e s') s) : VC (B := B) N c Q s := by
  intro M w0 ρ a w hr
  refine wp_mono (h M w0 ρ a w hr) ?_
  rintro e a' w' ⟨ρ', s1, h3, h4, s2, h5, h6⟩
  obtain ⟨ρ2, h7, h8⟩ := h5 M w0 N ρ' a' w' h4
  exact ⟨ρ2, s2, h3.trans h7, h8, h6⟩
/-- A loop whose rounds begin in states laid anew. -/
theorem vc_loopF {B N : Nat} {c : Code} {Q : Exit → St → Prop} {s : St} (I : Nat → St → Prop) (n0 : Nat) (h0 : ∃ s0, Fg B s s0 ∧ I n0 s0)
    (round : ∀ n s, I n s → VC (B := B) N c (fun e s' => match e with | .normal => ∃ s2, Fg B s' s2 ∧ ∃ n', n' < n ∧ I n' s2 | e => Q e s') s) : VC (B := B) N (.loop c) Q s := by
  obtain ⟨s0, h1, h2⟩ := h0
  refine vc_fg h1 (vc_loop I n0 h2 fun n s hI => vc_post ((round n s hI).mono ?_))
  intro e s' h
  cases e with
  | normal => exact h
  | _ => exact ⟨s', Fg.refl _ _, h⟩
/-- Behind a region: the state laid anew. -/
theorem refocusF {B N : Nat} {y : Code} {Q : Exit → St → Prop} {t : Nat → Value} {h : Nat → Option Blk} {n : Nat} (lt : List (Nat × Value)) (lh : List (Nat × Blk)) (K : Nat) (hB : B ≤ K) (ht : HasT t lt) (hh : HasS h lh) (hb : bdT K lt = true) (hb' : bdH K lh = true)
    (k : thenV (B := B) N y Q .normal ⟨updT (fun _ => junk) lt, updH (fun _ => none) lh, K⟩) : thenV (B := B) N y Q .normal ⟨t, h, n⟩ :=
  vc_focus (s := ⟨t, h, n⟩) lt lh K hB ht hh hb hb' k

theorem bdV_plain (K : Nat) (v : Value) : plain v = true → bdV K v = true := by
  refine Value.rec (motive_1 := fun v => plain v = true → bdV K v = true) (motive_2 := fun c => plainA c = true → bdA K c = true) (motive_3 := fun l => plainL l = true → bdL K l = true)
        ?_ ?_ ?_ ?_ ?_ ?_ ?_ ?_ ?_ ?_ ?_ ?_ ?_ ?_ ?_ ?_ ?_ ?_ v
  · intro b _; rfl
  · intro k n _; rfl
  · intro k n _; rfl
  · intro k n m _; rfl
  · intro s _; rfl
  · intro a h
    cases a with
    | none => rfl
    | some a => simp [plain] at h
  · intro a l c h
    cases a with
    | none => rfl
    | some a => simp [plain] at h
  · intro r h
    cases r with
    | none => rfl
    | some a => simp [plain] at h
  · intro r h
    cases r with
    | none => rfl
    | some a => simp [plain] at h
  · intro fn a c iha ihc h
    simp only [plain, Bool.and_eq_true] at h
    simp only [bdV, iha h.1, ihc h.2, Bool.and_self]
  · intro _; rfl
  · intro t v _ h; simpa [plain, bdV] using h
  · intro _; rfl
  · intro c ih h; simp only [bdV]; exact ih (by simpa [plain] using h)
  · intro c ih h; simp only [bdV]; exact ih (by simpa [plain] using h)
  · intro l ih h; simp only [bdA]; exact ih (by simpa [plainA] using h)
  · intro _; rfl
  · intro v l ihv ihl h
    simp only [plainL, Bool.and_eq_true] at h
    simp only [bdL, ihv h.1, ihl h.2, Bool.and_self]
theorem bdL_plain (K : Nat) {l : List Value} (h : plainL l = true) : bdL K l = true := by
  induction l with
  | nil => rfl
  | cons v l ih =>
    simp only [plainL, Bool.and_eq_true] at h
    simp only [bdL, bdV_plain K v h.1, ih h.2, Bool.and_self]
theorem renV_plain (f : Nat → Nat × Nat) (v : Value) : plain v = true → renV f v = v := by
  refine Value.rec (motive_1 := fun v => plain v = true → renV f v = v) (motive_2 := fun c => plainA c = true → renA f c = c) (motive_3 := fun l => plainL l = true → renL f l = l)
        ?_ ?_ ?_ ?_ ?_ ?_ ?_ ?_ ?_ ?_ ?_ ?_ ?_ ?_ ?_ ?_ ?_ ?_ v
  · intro b _; rfl
  · intro k n _; rfl
  · intro k n _; rfl
  · intro k n m _; rfl
  · intro s _; rfl
  · intro a h
    cases a with
    | none => rfl
    | some a => simp [plain] at h
  · intro a l c h
    cases a with
    | none => rfl
    | some a => simp [plain] at h
  · intro r h
    cases r with
    | none => rfl
    | some a => simp [plain] at h
  · intro r _; rfl
  · intro fn a c iha ihc h
    simp only [plain, Bool.and_eq_true] at h
    simp only [renV, iha h.1, ihc h.2]
  · intro _; rfl
  · intro t v _ h; rfl
  · intro _; rfl
  · intro c ih h; simp only [renV]; rw [ih (by simpa [plain] using h)]
  · intro c ih h; simp only [renV]; rw [ih (by simpa [plain] using h)]
  · intro l ih h; simp only [renA]; rw [ih (by simpa [plainA] using h)]
  · intro _; rfl
  · intro v l ihv ihl h
    simp only [plainL, Bool.and_eq_true] at h
    simp only [renL, ihv h.1, ihl h.2]
theorem renL_plain (f : Nat → Nat × Nat) {l : List Value} (h : plainL l = true) : renL f l = l := by
  induction l with
  | nil => rfl
  | cons v l ih =>
    simp only [plainL, Bool.and_eq_true] at h
    simp only [renL, renV_plain f v h.1, ih h.2]

end Go.Proofs.Ytdfkcijholopoaa.Vm
namespace Go.Proofs.Ytdfkcijholopoaa.Vm
open Go Go.RowKit
set_option linter.unusedSimpArgs false

/-- The callee's names, as the caller has them; n: the new one. -/
def toF (f : Nat → Nat × Nat) (n m : Nat) (k : Nat) : Nat × Nat := if k = n then (m, 0) else f k
def renB (f : Nat → Nat × Nat) : Blk → Blk
  | .cells c t own => .cells (renL f c) t own
  | .obj o => .obj o
def renU (f : Nat → Nat × Nat) : List (Nat × Blk) → List (Nat × Blk)
  | [] => []
  | (k, b) :: u => ((f k).1, renB f b) :: renU f u
theorem renU_mem {f : Nat → Nat × Nat} {y : Nat × Blk} : ∀ {u : List (Nat × Blk)}, y ∈ renU f u → ∃ x ∈ u, y = ((f x.1).1, renB f x.2)
  | [], h => by cases h
  | (k, b) :: u, h => by
    rcases List.mem_cons.1 h with rfl | h
    · exact ⟨(k, b), by simp, rfl⟩
    · obtain ⟨x, h1, h2⟩ := renU_mem h
      exact ⟨x, by simp [h1], h2⟩
theorem renU_of {f : Nat → Nat × Nat} {x : Nat × Blk} : ∀ {u : List (Nat × Blk)}, x ∈ u → ((f x.1).1, renB f x.2) ∈ renU f u
  | [], h => by cases h
  | (k, b) :: u, h => by
    rcases List.mem_cons.1 h with rfl | h
    · simp [renU]
    · exact List.mem_cons_of_mem _ (renU_of h)

def HasF (h : Nat → Option Blk) (f : Nat → Nat × Nat) (hp : List (Nat × Blk)) : Prop :=
  (∀ x ∈ hp, ∃ b, h (f x.1).1 = some b ∧ SubB f (f x.1).2 x.2 b) ∧
  (∀ x ∈ hp, ∀ y ∈ hp, x.1 ≠ y.1 → x.2.own = true → (f x.1).1 ≠ (f y.1).1)

/-- A FUNCTION, WHATEVER IT DOES: called with these, where the blocks hp are as told, it returns v and leaves the blocks as u tells (n: a new one), as Out says. -/
structure FC (g : FuncId) (vs : List Value) (n : Nat) (hp : List (Nat × Blk)) (Out : Value → List (Nat × Blk) → Prop) : Prop where
  good : goodF g = true
  calls : ∀ (M : Nat → Prop) (ρ : Nat → Option (Nat × Nat)) (h : Nat → Option Blk) (w : World) (f : Nat → Nat × Nat) (m : Nat) (vs' : List Value), HasF h f hp → RH M ρ h w → ρ m = none → RelL ρ (renL f vs) vs' →
    Calls P g vs'.toArray w (fun e w' => ∃ v v' u ρ', Out v u ∧ e = .returned v' ∧ Ext ρ ρ' ∧ Rel ρ' (renV (toF f n m) v) v' ∧ RH M ρ' (updL h (renU (toF f n m) u)) w' ∧ Kept M w w' ∧
      (∀ x ∈ renU (toF f n m) u, x.1 = m ∨ ρ x.1 ≠ none) ∧ ∀ k, ρ k = none → k ∉ (renU (toF f n m) u).map (·.1) → ρ' k = none)

theorem Rel.fwd {σ ρ' : Nat → Option (Nat × Nat)} {F : Nat → Nat × Nat} {K : Nat} (hF : ∀ k r o, k < K → σ k = some (r, o) → ∃ o0, ρ' (F k).1 = some (r, o0) ∧ o = o0 + (F k).2) :
    ∀ {v u : Value}, Rel σ v u → bdV K v = true → Rel ρ' (renV F v) u := by
  intro v u h
  have arr : ∀ {c c' : Array Value}, (∀ (i : Nat) (v v' : Value), c[i]? = some v → c'[i]? = some v' → bdV K v = true → Rel ρ' (renV F v) v') → bdA K c = true →
      ∀ (i : Nat) (v v' : Value), (renA F c)[i]? = some v → c'[i]? = some v' → Rel ρ' v v' := by
    intro c c' ih hb i v v' h1 h2
    rw [renA_get] at h1
    cases hc : c[i]? with
    | none => rw [hc] at h1; cases h1
    | some v0 =>
      rw [hc] at h1
      cases h1
      exact ih i v0 v' hc h2 (bdA_get hb hc)
  induction h with
  | plain hp => intro _; rw [renV_plain F _ hp]; exact .plain hp
  | @ptr m k r o hm =>
    intro hb
    simp only [bdV, decide_eq_true_eq] at hb
    obtain ⟨o0, h1, rfl⟩ := hF m r o hb hm
    simp only [renV]
    rw [Nat.add_assoc]
    exact .ptr h1
  | @slice m k r o l c hm =>
    intro hb
    simp only [bdV, decide_eq_true_eq] at hb
    obtain ⟨o0, h1, rfl⟩ := hF m r o hb hm
    simp only [renV]
    rw [Nat.add_assoc]
    exact .slice h1
  | wild => intro _; exact .wild
  | @map m r hm =>
    intro hb
    simp only [bdV, decide_eq_true_eq] at hb
    obtain ⟨o0, h1, h2⟩ := hF m r 0 hb hm
    obtain ⟨rfl, h3⟩ : o0 = 0 ∧ (F m).2 = 0 := by omega
    simp only [renV, h3]
    exact .map h1
  | @func fn a a' c c' h1 h2 h3 h4 ih1 ih2 =>
    intro hb
    simp only [bdV, Bool.and_eq_true] at hb
    exact .func (by rw [← h1, renA_size]) (arr ih1 hb.1) (by rw [← h3, renA_size]) (arr ih2 hb.2)
  | @agg c c' h1 h2 ih =>
    intro hb
    simp only [bdV] at hb
    exact .agg (by rw [← h1, renA_size]) (arr ih hb)
  | @tuple c c' h1 h2 ih =>
    intro hb
    simp only [bdV] at hb
    exact .tuple (by rw [← h1, renA_size]) (arr ih hb)
theorem renL_length (f : Nat → Nat × Nat) (l : List Value) : (renL f l).length = l.length := by simpa [renA] using renA_size f ⟨l⟩
theorem RObj.fwd {σ ρ' : Nat → Option (Nat × Nat)} {F : Nat → Nat × Nat} {K : Nat} (hF : ∀ k r o, k < K → σ k = some (r, o) → ∃ o0, ρ' (F k).1 = some (r, o0) ∧ o = o0 + (F k).2) {b : Blk} {o : Nat} {x : Option Obj}
    (h : RObj σ b o x) (hb : bdB K b = true) : RObj ρ' (renB F b) o x := by
  cases b with
  | obj ob => exact h
  | cells c t own =>
    simp only [bdB] at hb
    cases own with
    | true =>
      obtain ⟨c', h1, h2, h3⟩ := h
      refine ⟨c', h1, h2, by rw [renL_length]; exact h3.1, fun i v v' hv hv' => ?_⟩
      rw [renL_get] at hv
      cases hc : c[i]? with
      | none => rw [hc] at hv; cases hv
      | some v0 =>
        rw [hc] at hv
        cases hv
        exact (h3.2 i v0 v' hc hv').fwd hF (bdL_get hb hc)
    | false =>
      obtain ⟨c', t', fz, h1, h2⟩ := h
      refine ⟨c', t', fz, h1, fun i v hv => ?_⟩
      rw [renL_get] at hv
      cases hc : c[i]? with
      | none => rw [hc] at hv; cases hv
      | some v0 =>
        rw [hc] at hv
        cases hv
        obtain ⟨v', h3, h4⟩ := h2 i v0 hc
        exact ⟨v', h3, h4.fwd hF (bdL_get hb hc)⟩
theorem RObj.own0 {ρ : Nat → Option (Nat × Nat)} {b : Blk} {o : Nat} {x : Option Obj} (h : RObj ρ b o x) (hb : b.own = true) : o = 0 := by
  cases b with
  | obj ob => exact h.2
  | cells c t own =>
    simp only [Blk.own] at hb
    subst hb
    obtain ⟨_, _, h2, _⟩ := h
    exact h2
theorem updL_get : ∀ {u : List (Nat × Blk)} {h : Nat → Option Blk} {x : Nat × Blk}, (u.map (·.1)).Nodup → x ∈ u → updL h u x.1 = some x.2
  | [], _, _, _, h => by cases h
  | (k, b) :: u, h, x, hn, hx => by
    simp only [List.map_cons, List.nodup_cons] at hn
    simp only [updL]
    rcases List.mem_cons.1 hx with rfl | hx
    · rw [updL_other fun y hy e => hn.1 (List.mem_map.2 ⟨y, hy, e⟩), upd_same]
    · exact updL_get hn.2 hx
theorem updL_cases {u : List (Nat × Blk)} {h : Nat → Option Blk} {k : Nat} {b : Blk} (hn : (u.map (·.1)).Nodup) (hk : updL h u k = some b) : (k, b) ∈ u ∨ (k ∉ u.map (·.1) ∧ h k = some b) := by
  by_cases hm : k ∈ u.map (·.1)
  · left
    obtain ⟨x, hx, rfl⟩ := List.mem_map.1 hm
    rw [updL_get hn hx] at hk
    cases hk
    exact hx
  · right
    rw [updL_other fun x hx e => hm (List.mem_map.2 ⟨x, hx, e⟩)] at hk
    exact ⟨hm, hk⟩

/-- What a body must end in. -/
def Res (n : Nat) (hp : List (Nat × Blk)) (rs : List ResultVar) (Out : Value → List (Nat × Blk) → Prop) (s : St) : Prop :=
  ∃ (j : Nat) (v : Value) (u : List (Nat × Blk)), Out v u ∧ n ≤ j ∧ vresult s rs = some (renV (toF (fun k => (k, 0)) n j) v) ∧ bdV (n + 1) v = true ∧
    (∀ x ∈ u, (∃ b, s.h (toF (fun k => (k, 0)) n j x.1).1 = some b ∧ SubB (toF (fun k => (k, 0)) n j) 0 x.2 b ∧ b.own = true) ∧ bdB (n + 1) x.2 = true ∧ (x.1 = n ∨ (x.1 < n ∧ ∃ y ∈ hp, y.1 = x.1 ∧ y.2.own = true))) ∧
    (u.map (·.1)).Nodup ∧ (∀ x ∈ hp, x.2.own = true → x.1 ∈ u.map (·.1)) ∧ (n ∈ u.map (·.1) ∨ s.n ≤ j)

theorem fc_of {g N : Nat} {fn : Func} {c : Code} {vs : List Value} {Out : Value → List (Nat × Blk) → Prop} (hp : List (Nat × Blk)) (n : Nat) (hf : P.funcs[g]? = some fn) (hb : fn.body = some c) (hn : fn.ntmps = N) (hg : goodF g = true) (hN : vs.length ≤ N)
    (hbd : bdL n vs = true) (hpn : bdH n hp = true) (hall : ∀ k, k < n → ∃ x ∈ hp, x.1 = k)
    (h : VC (B := n) N c (fun e s' => (e = .normal ∨ e = .ret) ∧ Res n hp fn.results.toList Out s') ⟨enter vs, updH (fun _ => none) hp, n⟩) : FC g vs n hp Out := by
  refine ⟨hg, fun M ρ h0 w f m vs' hR hH hm hrel => ?_⟩
  refine calls_of_wp hf hb ?_
  rw [hn]
  obtain ⟨M', hM'⟩ : ∃ M' : Nat → Prop, M' = fun r => w.heap.size ≤ r ∨ ∃ x ∈ hp, x.2.own = true ∧ ∃ o, ρ (f x.1).1 = some (r, o) := ⟨_, rfl⟩
  have hM : ∀ r, M' r → M r := by
    intro r hr
    rw [hM'] at hr
    rcases hr with hr | ⟨x, hx, ho, o, hr⟩
    · exact hH.new r hr
    · obtain ⟨b, h1, h2⟩ := hR.1 x hx
      obtain ⟨r', o', h3, _, h4⟩ := hH.blk _ _ h1
      rw [hr] at h3
      cases h3
      exact h4 (h2.own ho).1
  have real : ∀ x ∈ hp, ∃ r o, ρ (f x.1).1 = some (r, o) := fun x hx => by
    obtain ⟨b, h1, _⟩ := hR.1 x hx
    obtain ⟨r, o, h3, _⟩ := hH.blk _ _ h1
    exact ⟨r, o, h3⟩
  have hrel' : RelL (resV ρ f n) vs vs' := by
    refine ⟨?_, fun i x x' hx hx' => ?_⟩
    · rw [← hrel.1, renL_length]
    · exact Rel.ren (hrel.2 i _ x' (by rw [renL_get, hx]; rfl) hx') x rfl (bdL_get hbd hx)
  have hH' : RH M' (resV ρ f n) (updH (fun _ => none) hp) w := by
    refine ⟨fun k b hk => ?_, fun k k' b b' r o r' o' hk hk' hne hown h1 h2 => ?_, fun r hr => by rw [hM']; exact .inl hr⟩
    · have hx := updH_mem hk
      obtain ⟨b1, h1, h2⟩ := hR.1 _ hx
      obtain ⟨r, o, h3, h4, h5⟩ := hH.blk _ _ h1
      obtain ⟨h6, h7⟩ := bdH_mem hpn _ hx
      exact ⟨r, o + (f k).2, by simp only [resV, if_pos h6, h3, Option.map_some], h4.sub h2 h7, fun ho => by rw [hM']; exact .inr ⟨_, hx, ho, o, h3⟩⟩
    · have hx := updH_mem hk
      have hy := updH_mem hk'
      obtain ⟨b1, d1, d2⟩ := hR.1 _ hx
      obtain ⟨b2, e1, e2⟩ := hR.1 _ hy
      obtain ⟨r1, o1, q1⟩ := real _ hx
      obtain ⟨r2, o2, q2⟩ := real _ hy
      simp only at q1 q2
      have l1 := (bdH_mem hpn _ hx).1
      have l2 := (bdH_mem hpn _ hy).1
      simp only [resV, if_pos l1, q1, Option.map_some, Option.some.injEq, Prod.mk.injEq] at h1
      simp only [resV, if_pos l2, q2, Option.map_some, Option.some.injEq, Prod.mk.injEq] at h2
      rw [← h1.1, ← h2.1]
      exact hH.inj _ _ _ _ r1 o1 r2 o2 d1 e1 (hR.2 _ hx _ hy hne hown) (d2.own hown).1 q1 q2
  have hrr := enter_rr (M := M') (N := N) (n := n) (h := updH (fun _ => none) hp) (w := w) hrel' hN hH' (fun k hk => if_neg (by omega))
  refine wp_mono (h _ _ _ _ _ hrr) ?_
  rintro e a' w' ⟨ρ', s1, hE, hr1, he, j, v, u, hO, hj, hv, hbv, hu, hnd, hcov, hor⟩
  obtain ⟨v', h5, h6⟩ := vresult_sound hr1 hv
  -- the names
  have inn : ∀ k, k < n → ∃ r o, ρ (f k).1 = some (r, o) ∧ ρ' k = some (r, o + (f k).2) := by
    intro k hk
    obtain ⟨x, hx, rfl⟩ := hall k hk
    obtain ⟨r, o, h1⟩ := real x hx
    exact ⟨r, o, h1, hE _ _ hk (by simp only [resV, if_pos hk, h1, Option.map_some])⟩
  have hF : ∀ k r o, k < n + 1 → resV ρ' (toF (fun k => (k, 0)) n j) (n + 1) k = some (r, o) → ∃ o0, upd ρ m (ρ' j) (toF f n m k).1 = some (r, o0) ∧ o = o0 + (toF f n m k).2 := by
    intro k r o hk hs
    simp only [resV, if_pos hk] at hs
    by_cases e : k = n
    · subst e
      simp only [toF, if_true] at hs ⊢
      rw [upd_same]
      cases hq : ρ' j with
      | none => rw [hq] at hs; cases hs
      | some x =>
        rw [hq] at hs
        simp only [Option.map_some, Option.some.injEq, Prod.mk.injEq, Nat.add_zero] at hs
        exact ⟨x.2, by rw [← hs.1], by rw [← hs.2, Nat.add_zero]⟩
    · simp only [toF, if_neg e] at hs ⊢
      obtain ⟨r', o', q1, q2⟩ := inn k (by omega)
      rw [q2] at hs
      simp only [Option.map_some, Option.some.injEq, Prod.mk.injEq, Nat.add_zero] at hs
      have hne : (f k).1 ≠ m := fun e' => by rw [e', hm] at q1; cases q1
      rw [upd_ne _ _ hne]
      exact ⟨o', by rw [q1, hs.1], by rw [← hs.2]⟩
  have hres : Rel (upd ρ m (ρ' j)) (renV (toF f n m) v) v' := (Rel.ren h6 v rfl hbv).fwd hF hbv
  -- each block that is told
  have told : ∀ x ∈ u, ∃ r, upd ρ m (ρ' j) (toF f n m x.1).1 = some (r, 0) ∧ ρ' (toF (fun k => (k, 0)) n j x.1).1 = some (r, 0) ∧ RObj (upd ρ m (ρ' j)) (renB (toF f n m) x.2) 0 w'.heap[r]? ∧ M' r := by
    intro x hx
    obtain ⟨⟨b1, d1, d2, d3⟩, d4, d5⟩ := hu x hx
    obtain ⟨r, o, e1, e2, e3⟩ := hr1.heap.blk _ _ d1
    have := e2.own0 d3
    subst this
    have hlt : x.1 < n + 1 := by rcases d5 with d5 | d5 <;> omega
    have hz : (toF (fun k => (k, 0)) n j x.1).2 = 0 := by unfold toF; split <;> rfl
    have hs : resV ρ' (toF (fun k => (k, 0)) n j) (n + 1) x.1 = some (r, 0) := by simp only [resV, if_pos hlt, e1, Option.map_some, hz]
    obtain ⟨o0, f1, f2⟩ := hF _ _ _ hlt hs
    have : o0 = 0 := by omega
    subst this
    have f3 := e2.sub d2 d4
    exact ⟨r, f1, e1, f3.fwd hF d4, e3 d3⟩
  have hnames : ((renU (toF f n m) u).map (·.1)).Nodup := by
    have key : ∀ (u : List (Nat × Blk)), (u.map (·.1)).Nodup → (∀ x ∈ u, x.1 = n ∨ (x.1 < n ∧ ∃ y ∈ hp, y.1 = x.1 ∧ y.2.own = true)) → ((renU (toF f n m) u).map (·.1)).Nodup := by
      intro u
      induction u with
      | nil => intro _ _; simp [renU]
      | cons x u ih =>
        intro h1 h2
        obtain ⟨k, b⟩ := x
        simp only [List.map_cons, List.nodup_cons] at h1
        simp only [renU, List.map_cons, List.nodup_cons]
        refine ⟨fun hmem => ?_, ih h1.2 fun x hx => h2 x (by simp [hx])⟩
        obtain ⟨y, hy, e⟩ := List.mem_map.1 hmem
        obtain ⟨z, hz, rfl⟩ := renU_mem hy
        simp only at e
        have hkz : k ≠ z.1 := fun e' => h1.1 (List.mem_map.2 ⟨z, hz, e'.symm⟩)
        have hk := h2 (k, b) (by simp)
        have hzz := h2 z (by simp [hz])
        simp only at hk
        rcases hk with rfl | ⟨hk, y1, g1, g2, g3⟩
        · rcases hzz with e' | ⟨hz', _⟩
          · exact hkz e'.symm
          · simp only [toF, if_true, if_neg (Ne.symm hkz)] at e
            obtain ⟨r, o, q1, _⟩ := inn z.1 hz'
            rw [e, hm] at q1
            cases q1
        · rcases hzz with e' | ⟨hz', y2, g4, g5, g6⟩
          · simp only [toF, if_neg (show k ≠ n by omega), e', if_true] at e
            obtain ⟨r, o, q1, _⟩ := inn k hk
            rw [← e, hm] at q1
            cases q1
          · simp only [toF, if_neg (show k ≠ n by omega), if_neg (show z.1 ≠ n by omega)] at e
            refine hR.2 y1 g1 y2 g4 (by rw [g2, g5]; exact hkz) g3 ?_
            rw [g2, g5]
            exact e.symm
    exact key u hnd fun x hx => (hu x hx).2.2
  have covered : ∀ x ∈ hp, x.2.own = true → ∃ z ∈ u, z.1 = x.1 := fun x hx ho => by
    obtain ⟨z, h1, h2⟩ := List.mem_map.1 (hcov x hx ho)
    exact ⟨z, h1, h2⟩
  have old : ∀ k b, h0 k = some b → k ∉ (renU (toF f n m) u).map (·.1) → ∃ r o, ρ k = some (r, o) ∧ upd ρ m (ρ' j) k = some (r, o) ∧ RObj ρ b o w.heap[r]? ∧ (b.own = true → M r) ∧ ¬ M' r ∧ r < w.heap.size := by
    intro k b hk hnk
    obtain ⟨r, o, h1, h2, h3⟩ := hH.blk k b hk
    have hne : k ≠ m := fun e' => by rw [e', hm] at h1; cases h1
    have hlt := hH.lt hk h1
    refine ⟨r, o, h1, by rw [upd_ne _ _ hne]; exact h1, h2, h3, fun hr => ?_, hlt⟩
    rw [hM'] at hr
    rcases hr with hr | ⟨x, hx, ho, o', hr⟩
    · omega
    · obtain ⟨z, hz, e⟩ := covered x hx ho
      obtain ⟨b1, d1, d2⟩ := hR.1 x hx
      have hxn := (bdH_mem hpn _ hx).1
      have hzm := List.mem_map_of_mem (f := (·.1)) (renU_of (f := toF f n m) hz)
      simp only [toF, e, if_neg (show x.1 ≠ n by omega)] at hzm
      exact hH.inj _ _ _ _ r o' r o d1 hk (fun e' => hnk (e' ▸ hzm)) (d2.own ho).1 hr h1 rfl
  have hRH : RH M (upd ρ m (ρ' j)) (updL h0 (renU (toF f n m) u)) w' := by
    refine ⟨fun k b hk => ?_, fun k1 k2 b1 b2 r1 o1 r2 o2 hk1 hk2 hne hown q1 q2 => ?_, fun r hr => hH.new r (Nat.le_trans hr1.kept.size hr)⟩
    · rcases updL_cases hnames hk with hmem | ⟨hnk, hk⟩
      · obtain ⟨x, hx, e⟩ := renU_mem hmem
        cases e
        obtain ⟨r, d1, d2, d3, d4⟩ := told x hx
        exact ⟨r, 0, d1, d3, fun _ => hM r d4⟩
      · obtain ⟨r, o, d1, d2, d3, d4, d5, _⟩ := old k b hk hnk
        exact ⟨r, o, d2, by rw [hr1.kept.block r d5]; exact d3.ext (Ext.upd hm _), d4⟩
    · rcases updL_cases hnames hk1 with m1 | ⟨n1, k1'⟩
      · obtain ⟨x, hx, e⟩ := renU_mem m1
        cases e
        obtain ⟨rx, d1, d2, d3, d4⟩ := told x hx
        rw [q1] at d1
        cases d1
        obtain ⟨⟨bx, bx1, bx2, bx3⟩, _, bx5⟩ := hu x hx
        rcases updL_cases hnames hk2 with m2 | ⟨n2, k2'⟩
        · obtain ⟨y, hy, e⟩ := renU_mem m2
          cases e
          obtain ⟨ry, e1, e2, e3, e4⟩ := told y hy
          rw [q2] at e1
          cases e1
          obtain ⟨⟨by0, by1, by2, by3⟩, _, by5⟩ := hu y hy
          refine hr1.heap.inj _ _ _ _ _ _ _ _ bx1 by1 (fun e => hne ?_) bx3 d2 e2
          have hxy : x.1 = y.1 := by
            unfold toF at e
            rcases bx5 with bx5 | ⟨bx5, _⟩ <;> rcases by5 with by5 | ⟨by5, _⟩
            · omega
            · rw [if_pos bx5, if_neg (by omega)] at e; simp only at e; omega
            · rw [if_neg (by omega), if_pos by5] at e; simp only at e; omega
            · rw [if_neg (by omega), if_neg (by omega)] at e; exact e
          rw [hxy]
        · obtain ⟨r, o, e1, e2, e3, e4, e5, e6⟩ := old k2 b2 k2' n2
          rw [q2] at e2
          cases e2
          intro heq
          subst heq
          exact e5 d4
      · obtain ⟨r, o, e1, e2, e3, e4, e5, e6⟩ := old k1 b1 k1' n1
        rw [q1] at e2
        cases e2
        rcases updL_cases hnames hk2 with m2 | ⟨n2, k2'⟩
        · obtain ⟨y, hy, e⟩ := renU_mem m2
          cases e
          obtain ⟨ry, g1, g2, g3, g4⟩ := told y hy
          rw [q2] at g1
          cases g1
          intro heq
          subst heq
          exact e5 g4
        · obtain ⟨r', o', g1, g2, g3, g4, g5, g6⟩ := old k2 b2 k2' n2
          rw [q2] at g2
          cases g2
          exact hH.inj k1 k2 b1 b2 _ _ _ _ k1' k2' hne hown e1 g1
  have final : ∃ x, (results fn a'.tmps).run P w' = .ok x w' ∧ ∃ v v' u ρ', Out v u ∧ Ending.returned x = .returned v' ∧ Ext ρ ρ' ∧ Rel ρ' (renV (toF f n m) v) v' ∧ RH M ρ' (updL h0 (renU (toF f n m) u)) w' ∧ Kept M w w' ∧
      (∀ x ∈ renU (toF f n m) u, x.1 = m ∨ ρ x.1 ≠ none) ∧ ∀ k, ρ k = none → k ∉ (renU (toF f n m) u).map (·.1) → ρ' k = none := by
    refine ⟨v', h5, v, v', u, _, hO, rfl, Ext.upd hm _, hres, hRH, hr1.kept.mono hM, fun y hy => ?_, fun k hk hnk => ?_⟩
    · obtain ⟨x, hx, rfl⟩ := renU_mem hy
      rcases (hu x hx).2.2 with e | ⟨hx', _⟩
      · left; simp only [toF, e, if_true]
      · right
        obtain ⟨r, o, q1, _⟩ := inn x.1 hx'
        simp only [toF, if_neg (show x.1 ≠ n by omega), q1]
        exact fun h => by cases h
    · by_cases e : k = m
      · subst e
        rw [upd_same]
        rcases hor with hin | hge
        · obtain ⟨z, hz, e⟩ := List.mem_map.1 hin
          have hzm := List.mem_map_of_mem (f := (·.1)) (renU_of (f := toF f n k) hz)
          simp only [toF, e, if_true] at hzm
          exact absurd hzm hnk
        · exact hr1.fresh j hge
      · rw [upd_ne _ _ e]; exact hk
  rcases he with rfl | rfl
  · exact ⟨hr1.defers, final⟩
  · exact ⟨hr1.defers, final⟩

end Go.Proofs.Ytdfkcijholopoaa.Vm
