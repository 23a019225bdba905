/- The same for a region that draws its order; a state said anew. -/
import Derived.Test.YtdfkcijholopoaaVm14
namespace Go.Proofs.Ytdfkcijholopoaa.Vm
open Go Go.RowKit
set_option linter.unusedSimpArgs false

abbrev Log := List (Nat × List Nat × List Nat)
def chkB (U : List (Nat × Nat)) (log : Log) (i : Nat) (rd wr : List Nat) : Bool :=
  log.all fun e => !U.contains (e.1, i) || ((e.2.2.all fun m => !rd.contains m && !wr.contains m) && (e.2.1.all fun m => !wr.contains m))
theorem chk_of_B {U : List (Nat × Nat)} {log : Log} {i : Nat} {rd wr : List Nat} (h : chkB U log i rd wr = true) : chk U log i rd wr := by
  intro e he hu
  have h1 := List.all_eq_true.1 h e he
  have h2 : U.contains (e.1, i) = true := by simpa using hu
  rw [h2] at h1
  simp only [Bool.not_true, Bool.false_or, Bool.and_eq_true, List.all_eq_true, Bool.not_eq_true', List.contains_eq_mem, decide_eq_false_iff_not] at h1
  exact h1

/-- The run over core operations (no other may come). -/
def goD (z : Bool) (ops : Array Oper) (U : List (Nat × Nat)) (base : Nat) : Nat → List Oper → Log → (Nat → Value) → (Nat → Option Blk) → Nat → (Log → (Nat → Value) → (Nat → Option Blk) → Nat → Prop) → Prop
  | _, [], log, t, h, n, K => K log t h n
  | i, o :: rest, log, t, h, n, K =>
    match wantV ops o t with
    | some true => match vex (evT t) h o.op with
      | some (.val v) => forceV (opSmall o.op) v fun v => match o.dst with
        | some d => goD z ops U base (i + 1) rest log (upd t d v) h n K
        | none => goD z ops U base (i + 1) rest log t h n K
      | some (.rd m v) => match chkB U log i [m] [] with
        | true => forceV (opSmall o.op) v fun v => match o.dst with
          | some d => goD z ops U base (i + 1) rest ((i, [m], []) :: log) (upd t d v) h n K
          | none => goD z ops U base (i + 1) rest ((i, [m], []) :: log) t h n K
        | false => False
      | some (.new b p) => forceB b fun b => forceN z (base + i) fun m => forceN z (max n (m + 1)) fun n => force (p m) fun v => match chkB U log i [] [m] with
        | true => match o.dst with
          | some d => goD z ops U base (i + 1) rest ((i, [], [m]) :: log) (upd t d v) (upd h m (some b)) n K
          | none => goD z ops U base (i + 1) rest ((i, [], [m]) :: log) t (upd h m (some b)) n K
        | false => False
      | some (.set k b) => forceB b fun b => forceN z (max n (k + 1)) fun n => match chkB U log i [k] [k] with
        | true => match o.dst with
          | some d => goD z ops U base (i + 1) rest ((i, [k], [k]) :: log) (upd t d undef) (upd h k (some b)) n K
          | none => goD z ops U base (i + 1) rest ((i, [k], [k]) :: log) t (upd h k (some b)) n K
        | false => False
      | none => False
    | some false => match o.dst with
      | some d => goD z ops U base (i + 1) rest log (upd t d undef) h n K
      | none => goD z ops U base (i + 1) rest log t h n K
    | none => False

def goDK (ops : Array Oper) (U : List (Nat × Nat)) (base i : Nat) (o : Oper) (log : Log) (t : Nat → Value) (h : Nat → Option Blk) (n : Nat) (k : Log → (Nat → Value) → (Nat → Option Blk) → Nat → Prop) : Prop :=
  match wantV ops o t with
  | some true => match vex (evT t) h o.op with
    | some (.val v) => k log (putT t o.dst v) h n
    | some (.rd m v) => match chkB U log i [m] [] with | true => k ((i, [m], []) :: log) (putT t o.dst v) h n | false => False
    | some (.new b p) => match chkB U log i [] [base + i] with | true => k ((i, [], [base + i]) :: log) (putT t o.dst (p (base + i))) (upd h (base + i) (some b)) (max n (base + i + 1)) | false => False
    | some (.set m b) => match chkB U log i [m] [m] with | true => k ((i, [m], [m]) :: log) (putT t o.dst undef) (upd h m (some b)) (max n (m + 1)) | false => False
    | none => False
  | some false => k log (putT t o.dst undef) h n
  | none => False

theorem goD_cons (z : Bool) (ops : Array Oper) (U : List (Nat × Nat)) (base i : Nat) (o : Oper) (rest : List Oper) (log : Log) (t : Nat → Value) (h : Nat → Option Blk) (n : Nat) (K : Log → (Nat → Value) → (Nat → Option Blk) → Nat → Prop) :
    goD z ops U base i (o :: rest) log t h n K = goDK ops U base i o log t h n fun log t h n => goD z ops U base (i + 1) rest log t h n K := by
  unfold goDK
  rw [goD]
  simp only [forceV_eq, forceB_eq, forceN_eq, force_eq]
  cases o.dst <;> rfl

/-- A log that may lack entries that say nothing. -/
def LogOk (log' log : Log) : Prop := ∀ e ∈ log', e ∈ log ∨ (e.2.1 = [] ∧ e.2.2 = [])
theorem LogOk.cons {log' log : Log} (h : LogOk log' log) (x : Nat × List Nat × List Nat) : LogOk (x :: log') (x :: log) := fun e he => by
  rcases List.mem_cons.1 he with rfl | he
  · exact .inl List.mem_cons_self
  · exact (h e he).imp (List.mem_cons_of_mem _) id
theorem LogOk.skip {log' log : Log} (h : LogOk log' log) (i : Nat) : LogOk ((i, [], []) :: log') log := fun e he => by
  rcases List.mem_cons.1 he with rfl | he
  · exact .inr ⟨rfl, rfl⟩
  · exact h e he
theorem LogOk.chk {U : List (Nat × Nat)} {log' log : Log} (h : LogOk log' log) {i : Nat} {rd wr : List Nat} (hc : chk U log i rd wr) : chk U log' i rd wr := fun e he hu => by
  rcases h e he with h1 | ⟨h1, h2⟩
  · exact hc e h1 hu
  · rw [h1, h2]; simp

/-- The region's run from here, whatever idle entries its log bears. -/
def W (ops : Array Oper) (U : List (Nat × Nat)) (base i : Nat) (l : List Oper) (log : Log) (t : Nat → Value) (h : Nat → Option Blk) (n : Nat) (K : St → Prop) : Prop :=
  ∀ log', LogOk log' log → vgoD ops U base i l log' ⟨t, h, n⟩ K

theorem W_step {ops : Array Oper} {U : List (Nat × Nat)} {base i : Nat} {o : Oper} {rest : List Oper} {log : Log} {t : Nat → Value} {h : Nat → Option Blk} {n : Nat} {K : St → Prop} {k : Log → (Nat → Value) → (Nat → Option Blk) → Nat → Prop}
    (hg : goDK ops U base i o log t h n k) (hk : ∀ log t h n, k log t h n → W ops U base (i + 1) rest log t h n K) : W ops U base i (o :: rest) log t h n K := by
  intro log' hl
  unfold goDK at hg
  cases hw : wantV ops o t with
  | none => rw [hw] at hg; exact hg.elim
  | some b =>
  cases b with
  | true =>
    rw [hw] at hg
    simp only at hg
    cases he : vex (evT t) h o.op with
    | none => rw [he] at hg; exact hg.elim
    | some ef =>
      rw [he] at hg
      rw [evT_eq t h n] at he
      unfold vgoD
      simp only [hw, he]
      cases ef with
      | val v =>
        simp only at hg ⊢
        refine ⟨hl.chk fun e _ _ => by simp [Ef.rds, Ef.out], ?_⟩
        rw [app_putT]
        exact hk _ _ _ _ hg _ (hl.skip i)
      | rd m v =>
        simp only at hg ⊢
        split at hg
        · rename_i hc
          refine ⟨hl.chk (chk_of_B hc), ?_⟩
          rw [app_putT]
          exact hk _ _ _ _ hg _ (hl.cons _)
        · exact hg.elim
      | new b p =>
        simp only at hg ⊢
        split at hg
        · rename_i hc
          refine ⟨hl.chk (chk_of_B hc), ?_⟩
          rw [app_putT]
          exact hk _ _ _ _ hg _ (hl.cons _)
        · exact hg.elim
      | set m b =>
        simp only at hg ⊢
        split at hg
        · rename_i hc
          refine ⟨hl.chk (chk_of_B hc), ?_⟩
          rw [app_putT]
          exact hk _ _ _ _ hg _ (hl.cons _)
        · exact hg.elim
  | false =>
    rw [hw] at hg
    unfold vgoD
    simp only [hw]
    simp only at hg
    have := hk _ _ _ _ hg _ hl
    cases hd : o.dst <;> (rw [hd] at this; exact this)

theorem goD_mono {z : Bool} {ops : Array Oper} {U : List (Nat × Nat)} {base : Nat} : ∀ (l : List Oper) {i : Nat} {log : Log} {t : Nat → Value} {h : Nat → Option Blk} {n : Nat} {K1 K2 : Log → (Nat → Value) → (Nat → Option Blk) → Nat → Prop},
    (∀ log t h n, K1 log t h n → K2 log t h n) → goD z ops U base i l log t h n K1 → goD z ops U base i l log t h n K2
  | [], _, _, _, _, _, _, _, hk, hg => hk _ _ _ _ hg
  | o :: l, i, log, t, h, n, K1, K2, hk, hg => by
    rw [goD_cons] at hg ⊢
    unfold goDK at hg ⊢
    split
    · rename_i hw
      rw [hw] at hg
      simp only at hg
      split <;> rename_i he <;> rw [he] at hg <;> simp only at hg
      · exact goD_mono l hk hg
      · split <;> rename_i hc <;> rw [hc] at hg
        · exact goD_mono l hk hg
        · exact hg
      · split <;> rename_i hc <;> rw [hc] at hg
        · exact goD_mono l hk hg
        · exact hg
      · split <;> rename_i hc <;> rw [hc] at hg
        · exact goD_mono l hk hg
        · exact hg
    · rename_i hw
      rw [hw] at hg
      exact goD_mono l hk hg
    · rename_i hw
      rw [hw] at hg
      exact hg

theorem runD_n {z : Bool} {ops : Array Oper} {U : List (Nat × Nat)} {base : Nat} {K : St → Prop} (m : Nat) : ∀ {i : Nat} {l : List Oper} {log : Log} {t : Nat → Value} {h : Nat → Option Blk} {n : Nat},
    (∀ K' : Log → (Nat → Value) → (Nat → Option Blk) → Nat → Prop, (∀ log t h n, W ops U base (i + m) (l.drop m) log t h n K → K' log t h n) → goD z ops U base i (l.take m) log t h n K') → m ≤ l.length → W ops U base i l log t h n K := by
  induction m with
  | zero =>
    intro i l log t h n H _
    exact H (fun log t h n => W ops U base (i + 0) (l.drop 0) log t h n K) fun _ _ _ _ h => h
  | succ m ih =>
    intro i l log t h n H hm
    cases l with
    | nil => simp at hm
    | cons o l =>
      have h0 := H (fun log t h n => W ops U base (i + (m + 1)) (l.drop m) log t h n K) fun _ _ _ _ h => h
      rw [List.take_succ_cons, goD_cons] at h0
      refine W_step h0 fun log t h n hg => ih (fun K' hK' => ?_) (by simpa using hm)
      exact goD_mono _ (fun log t h n hv => hK' log t h n (by rw [show i + 1 + m = i + (m + 1) by omega]; exact hv)) hg

theorem runD_end {z : Bool} {ops : Array Oper} {U : List (Nat × Nat)} {base : Nat} {K : St → Prop} {i : Nat} {l : List Oper} {log : Log} {t : Nat → Value} {h : Nat → Option Blk} {n : Nat}
    (H : ∀ K' : Log → (Nat → Value) → (Nat → Option Blk) → Nat → Prop, (∀ log t h n, K ⟨t, h, n⟩ → K' log t h n) → goD z ops U base i l log t h n K') : W ops U base i l log t h n K := by
  refine runD_n (z := z) l.length (fun K' hK' => ?_) (Nat.le_refl _)
  rw [List.take_length]
  refine H K' fun log t h n hk => hK' log t h n ?_
  rw [List.drop_length]
  exact fun _ _ => hk

theorem vc_regD {B N id : Nat} {l : List Oper} {Q : Exit → St → Prop} {t : Nat → Value} {h : Nat → Option Blk} {n : Nat} (U : List (Nat × Nat)) (hok : l.all (okOp N) = true) (hg : goodR l.toArray U = true)
    (H : ∀ K : St → Prop, (∀ t h n, Q .normal ⟨t, h, n⟩ → K ⟨t, h, n⟩) → W l.toArray U n 0 l [] t h n K) : VC (B := B) N (.region id l.toArray true) Q ⟨t, h, n⟩ :=
  vc_regionD U hok hg fun K hK => H K (fun _ _ _ hq => hK _ hq) [] fun e he => by cases he
theorem vc_goD {B N id : Nat} {l : List Oper} {Q : Exit → St → Prop} {t : Nat → Value} {h : Nat → Option Blk} {n : Nat} (U : List (Nat × Nat)) (hok : l.all (okOp N) = true) (hg : goodR l.toArray U = true)
    (H : ∀ K : Log → (Nat → Value) → (Nat → Option Blk) → Nat → Prop, (∀ log t h n, Q .normal ⟨t, h, n⟩ → K log t h n) → goD false l.toArray U n 0 l [] t h n K) : VC (B := B) N (.region id l.toArray true) Q ⟨t, h, n⟩ :=
  vc_regD U hok hg fun _ hK => runD_end (z := false) fun K' hK' => H K' fun log t h n hq => hK' log t h n (hK _ _ _ hq)

theorem runD_op {ops : Array Oper} {U : List (Nat × Nat)} {base i : Nat} {o : Oper} {rest : List Oper} {log : Log} {t : Nat → Value} {h : Nat → Option Blk} {n : Nat} {K : St → Prop} {v : Value} (he : vex (evT t) h o.op = some (.val v)) (hw : wantV ops o t = some true)
    (k : W ops U base (i + 1) rest log (putT t o.dst v) h n K) : W ops U base i (o :: rest) log t h n K := by
  refine W_step (k := fun log' t' h' n' => log' = log ∧ t' = putT t o.dst v ∧ h' = h ∧ n' = n) ?_ ?_
  · unfold goDK; rw [hw, he]; exact ⟨rfl, rfl, rfl, rfl⟩
  · rintro _ _ _ _ ⟨rfl, rfl, rfl, rfl⟩; exact k
theorem runD_rd {ops : Array Oper} {U : List (Nat × Nat)} {base i : Nat} {o : Oper} {rest : List Oper} {log : Log} {t : Nat → Value} {h : Nat → Option Blk} {n : Nat} {K : St → Prop} {m : Nat} {v : Value} (he : vex (evT t) h o.op = some (.rd m v)) (hw : wantV ops o t = some true)
    (hc : chkB U log i [m] [] = true) (k : W ops U base (i + 1) rest ((i, [m], []) :: log) (putT t o.dst v) h n K) : W ops U base i (o :: rest) log t h n K := by
  refine W_step (k := fun log' t' h' n' => log' = (i, [m], []) :: log ∧ t' = putT t o.dst v ∧ h' = h ∧ n' = n) ?_ ?_
  · unfold goDK; rw [hw, he]; dsimp only; rw [hc]; exact ⟨rfl, rfl, rfl, rfl⟩
  · rintro _ _ _ _ ⟨rfl, rfl, rfl, rfl⟩; exact k
theorem runD_set {ops : Array Oper} {U : List (Nat × Nat)} {base i : Nat} {o : Oper} {rest : List Oper} {log : Log} {t : Nat → Value} {h : Nat → Option Blk} {n : Nat} {K : St → Prop} {m : Nat} {b : Blk} (he : vex (evT t) h o.op = some (.set m b)) (hw : wantV ops o t = some true)
    (hm : m + 1 ≤ n) (hd : o.dst = none) (hc : chkB U log i [m] [m] = true) (k : W ops U base (i + 1) rest ((i, [m], [m]) :: log) t (upd h m (some b)) n K) : W ops U base i (o :: rest) log t h n K := by
  refine W_step (k := fun log' t' h' n' => log' = (i, [m], [m]) :: log ∧ t' = t ∧ h' = upd h m (some b) ∧ n' = n) ?_ ?_
  · unfold goDK; rw [hw, he]; dsimp only; rw [hc, hd]; exact ⟨rfl, rfl, rfl, by omega⟩
  · rintro _ _ _ _ ⟨rfl, rfl, rfl, rfl⟩; exact k
theorem runD_call {ops : Array Oper} {U : List (Nat × Nat)} {base i : Nat} {o : Oper} {rest : List Oper} {log : Log} {t : Nat → Value} {h : Nat → Option Blk} {n : Nat} {K : St → Prop} {f : Operand} {args : Array Operand} {ats : Array TypeId} {g : FuncId} {v : Value} {vs : List Value}
    (hp : Pure g vs v) (ho : o.op = .call { callee := .value f, args := args, argTypes := ats }) (ha : args.toList.map (evT t) = vs) (hw : wantV ops o t = some true) (hf : evT t f = .func (.func g) #[] #[])
    (k : W ops U base (i + 1) rest log (putT t o.dst v) h n K) : W ops U base i (o :: rest) log t h n K := by
  intro log' hl
  subst ha
  rw [evT_eq t h n] at hp hf
  have hv : vex (⟨t, h, n⟩ : St).ev h o.op = none := by rw [ho]; rfl
  have hk : kd o.op = .sp := by rw [ho]; rfl
  unfold vgoD
  simp only [hw, hv]
  refine ⟨hk, [], _, sp_pure ho hf hp, ⟨v, [], rfl, rfl⟩, ?_⟩
  rintro v' u ⟨rfl, rfl⟩
  refine ⟨fun e _ _ => by simp, ?_⟩
  rw [app_putT]
  exact k _ (hl.skip i)

theorem upd_eta {α : Type} (f : Nat → α) {k : Nat} {v : α} (h : f k = v) : upd f k v = f := by
  funext i
  by_cases e : i = k
  · subst e; rw [upd_same, h]
  · rw [upd_ne _ _ e]
theorem W_case {ops : Array Oper} {U : List (Nat × Nat)} {base i : Nat} {l : List Oper} {log : Log} {t : Nat → Value} {h : Nat → Option Blk} {n : Nat} {K : St → Prop} (d : Nat) {b : Bool} (hd : t d = .bool b)
    (h1 : b = true → W ops U base i l log (upd t d (.bool true)) h n K) (h2 : b = false → W ops U base i l log (upd t d (.bool false)) h n K) : W ops U base i l log t h n K := by
  cases b with
  | true => have := h1 rfl; rwa [upd_eta t hd] at this
  | false => have := h2 rfl; rwa [upd_eta t hd] at this

/-! ### A state, said anew: what is live in it -/
def updT (t : Nat → Value) : List (Nat × Value) → Nat → Value
  | [] => t
  | (k, v) :: l => upd (updT t l) k v
def updH (h : Nat → Option Blk) : List (Nat × Blk) → Nat → Option Blk
  | [] => h
  | (k, b) :: l => upd (updH h l) k (some b)
def HasT (t : Nat → Value) : List (Nat × Value) → Prop
  | [] => True
  | (k, v) :: l => t k = v ∧ HasT t l
def HasH (h : Nat → Option Blk) : List (Nat × Blk) → Prop
  | [] => True
  | (k, b) :: l => h k = some b ∧ HasH h l
theorem updT_eta {t : Nat → Value} : ∀ {l : List (Nat × Value)}, HasT t l → updT t l = t
  | [], _ => rfl
  | (k, v) :: l, h => by rw [updT, updT_eta h.2, upd_eta t h.1]
theorem updH_eta {t : Nat → Option Blk} : ∀ {l : List (Nat × Blk)}, HasH t l → updH t l = t
  | [], _ => rfl
  | (k, v) :: l, h => by rw [updH, updH_eta h.2, upd_eta t h.1]

/-- The state whose slots lt and blocks lh are known. -/
def IsSt (lt : List (Nat × Value)) (lh : List (Nat × Blk)) (n : Nat) (s : St) : Prop := ∃ t h, s = ⟨updT t lt, updH h lh, n⟩
theorem isSt {t : Nat → Value} {h : Nat → Option Blk} {n n' : Nat} {lt : List (Nat × Value)} {lh : List (Nat × Blk)} (ht : HasT t lt) (hh : HasH h lh) (hn : n = n') : IsSt lt lh n' ⟨t, h, n⟩ :=
  ⟨t, h, by rw [updT_eta ht, updH_eta hh, hn]⟩
theorem refocus {Q : St → Prop} {t : Nat → Value} {h : Nat → Option Blk} {n : Nat} (lt : List (Nat × Value)) (lh : List (Nat × Blk)) (n' : Nat) (ht : HasT t lt) (hh : HasH h lh) (hn : n = n') (k : ∀ t h, Q ⟨updT t lt, updH h lh, n'⟩) : Q ⟨t, h, n⟩ := by
  obtain ⟨t', h', e⟩ := isSt ht hh hn
  rw [e]
  exact k t' h'

end Go.Proofs.Ytdfkcijholopoaa.Vm
