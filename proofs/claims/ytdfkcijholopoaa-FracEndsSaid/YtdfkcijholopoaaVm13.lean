/- Contracts of functions, and their calls. -/
import Derived.Test.YtdfkcijholopoaaVm12
namespace Go.Proofs.Ytdfkcijholopoaa.Vm
open Go Go.RowKit
set_option linter.unusedSimpArgs false

/-- A result of the virtual run. -/
def vres (s : St) : ResultVar → Option Value
  | .tmp t => match isJ (s.t t) with
    | true => none
    | false => some (s.t t)
  | .cell p t => match s.t p, ty t with
    | .pointer (some ⟨m, k, none⟩), some (ag, z) => match s.h m with
      | some (.cells c _ _) => partAt ag z.length c k
      | _ => none
    | _, _ => none
def vresL (s : St) : List ResultVar → Option (List Value)
  | [] => some []
  | r :: l => (vres s r).bind fun v => (vresL s l).map (v :: ·)
def vresult (s : St) (l : List ResultVar) : Option Value :=
  match l with
  | [r] => vres s r
  | l => (vresL s l).map fun vs => .tuple vs.toArray

section
variable {M : Nat → Prop} {w0 : World} {N : Nat} {fr : Nat → Prop} {ρ : Nat → Option (Nat × Nat)} {s : St} {a : Act} {w : World}

noncomputable def resRun (c : Array Value) : ResultVar → Sem Value
  | .tmp i => pure (c.getD i undef)
  | .cell i t => asAddr (c.getD i undef) >>= loadVar t

theorem vres_sound (hr : RR M w0 N fr ρ s a w) {r : ResultVar} {v : Value} (h : vres s r = some v) : ∃ v', (resRun a.tmps r).run P w = .ok v' w ∧ Rel ρ v v' := by
  cases r with
  | tmp t =>
    simp only [vres] at h
    split at h
    · cases h
    · rename_i hj; cases h; exact ⟨_, rfl, hr.tmp t hj⟩
  | cell p t =>
    simp only [vres] at h
    split at h
    · rename_i m k ag z hp ht
      split at h
      · rename_i c e own hm
        have h1 := hr.tmp p
        rw [hp] at h1
        replace h1 := h1 rfl
        obtain ⟨r, o, h2, h3⟩ := h1.ptr_inv
        obtain ⟨r', o', h4, h5, _⟩ := hr.heap.blk m _ hm
        rw [h2] at h4
        cases h4
        obtain ⟨v', h6, h7⟩ := partAt_sound (k := k) (ty_ok ht) h5 h
        refine ⟨v', ?_, h7⟩
        simp only [resRun, h3, asAddr, Sem.run_bind, Sem.run_pure, Result.andThen_ok, h6]
      · cases h
    · cases h

theorem vresL_sound (hr : RR M w0 N fr ρ s a w) : ∀ {l : List ResultVar} {vs : List Value}, vresL s l = some vs → ∃ vs', (l.mapM (resRun a.tmps)).run P w = .ok vs' w ∧ RelL ρ vs vs'
  | [], vs, h => by cases h; exact ⟨[], rfl, rfl, fun i v v' a _ => by simp at a⟩
  | r :: l, vs, h => by
    unfold vresL at h
    cases h1 : vres s r with
    | none => rw [h1] at h; cases h
    | some v =>
      rw [h1, Option.bind_some] at h
      cases h2 : vresL s l with
      | none => rw [h2] at h; cases h
      | some us =>
        rw [h2] at h
        cases h
        obtain ⟨v', h3, h4⟩ := vres_sound hr h1
        obtain ⟨us', h5, h6⟩ := vresL_sound hr h2
        refine ⟨v' :: us', ?_, ?_⟩
        · simp only [List.mapM_cons, Sem.run_bind, h3, Result.andThen_ok, h5, Sem.run_pure]
        · refine ⟨by simp [h6.1], fun i x x' hx hx' => ?_⟩
          cases i with
          | zero => simp at hx hx'; subst hx; subst hx'; exact h4
          | succ i => exact h6.2 i x x' (by simpa using hx) (by simpa using hx')

theorem results_eq (fn : Func) (tmps : Array Value) : results fn tmps = (do
    let vs ← fn.results.toList.mapM (resRun tmps)
    pure (match vs with | [v] => v | vs => .tuple vs.toArray) : Sem Value) := by
  have h0 : results fn tmps = (do
      let vs ← fn.results.mapM (resRun tmps)
      pure (if h : vs.size = 1 then vs[0] else .tuple vs) : Sem Value) := by
    unfold results
    congr 1
  have h1 : (fn.results.mapM (resRun tmps) : Sem (Array Value)) = List.toArray <$> fn.results.toList.mapM (resRun tmps) := by
    rw [← Array.toArray_toList (xs := fn.results), List.mapM_toArray]
  rw [h0, h1, map_eq_pure_bind, bind_assoc]
  congr 1
  funext vs
  rw [pure_bind]
  congr 1
  match vs with
  | [] => rfl
  | [v] => rfl
  | v :: u :: vs => rfl

theorem vresult_sound (hr : RR M w0 N fr ρ s a w) {fn : Func} {v : Value} (h : vresult s fn.results.toList = some v) : ∃ v', (results fn a.tmps).run P w = .ok v' w ∧ Rel ρ v v' := by
  rw [results_eq]
  unfold vresult at h
  split at h
  · rename_i r heq
    rw [heq]
    obtain ⟨v', h1, h2⟩ := vres_sound hr h
    refine ⟨v', ?_, h2⟩
    simp only [List.mapM_cons, List.mapM_nil, Sem.run_bind, h1, Result.andThen_ok, Sem.run_pure]
  · rename_i hne
    cases hv : vresL s fn.results.toList with
    | none => rw [hv] at h; cases h
    | some vs =>
      rw [hv] at h
      cases h
      obtain ⟨vs', h1, h2⟩ := vresL_sound hr hv
      refine ⟨.tuple vs'.toArray, ?_, Rel.tuple' h2.toA⟩
      have hlen : vs'.length = fn.results.toList.length := by
        rw [← h2.1]
        have : ∀ {l : List ResultVar} {vs : List Value}, vresL s l = some vs → vs.length = l.length := by
          intro l
          induction l with
          | nil => intro vs h; cases h; rfl
          | cons r l ih =>
            intro vs h
            unfold vresL at h
            cases h1 : vres s r with
            | none => rw [h1] at h; cases h
            | some v =>
              rw [h1, Option.bind_some] at h
              cases h2 : vresL s l with
              | none => rw [h2] at h; cases h
              | some us => rw [h2] at h; cases h; simp [ih h2]
        exact this hv
      simp only [Sem.run_bind, h1, Result.andThen_ok, Sem.run_pure]
      match vs', hlen with
      | [], _ => rfl
      | [u], hl =>
        obtain ⟨r, hr⟩ := List.length_eq_one_iff.1 hl.symm
        exact (hne r hr).elim
      | u :: x :: us, _ => rfl
end

/-- May the function be entered by a call? -/
noncomputable def goodF (g : FuncId) : Bool :=
  match P.funcs[g]? with
  | some fn => fn.body.isSome && !(fn.name == "runtime.NumGoroutine")
  | none => false

theorem callFunc_run {g : FuncId} (h : goodF g = true) (args : Array Value) (w : World) : (callFunc g args).run P w = .ok (.enter g args) w := by
  unfold goodF at h
  cases hf : P.funcs[g]? with
  | none => rw [hf] at h; cases h
  | some fn =>
    rw [hf] at h
    simp only [Bool.and_eq_true, Bool.not_eq_true'] at h
    have hb : fn.body.isNone = false := by
      cases hbb : fn.body with
      | none => rw [hbb] at h; cases h.1
      | some c => rfl
    simp only [callFunc, Sem.run_bind, run_program, Result.andThen_ok, hf, h.2, hb, Bool.false_eq_true, if_false, Sem.run_pure]

/-- A FUNCTION OF PLAIN VALUES: called with these in whatever world it returns that, and turns nothing that was there. -/
structure Pure (g : FuncId) (args : List Value) (v : Value) : Prop where
  good : goodF g = true
  arg : plainL args = true
  res : plain v = true
  calls : ∀ w, Calls P g args.toArray w (fun e w' => e = .returned v ∧ Below w.heap.size w w')

/-- How a function is entered: its slots. -/
def enter (args : List Value) : Nat → Value := fun k => args.getD k undef

theorem kept_below {w w' : World} (h : Kept (fun r => w.heap.size ≤ r) w w') : Below w.heap.size w w' :=
  ⟨h.os, h.tape, h.output, h.size, fun k hk => h.block k (by omega)⟩

theorem enter_rr {M : Nat → Prop} {N n : Nat} {ρ : Nat → Option (Nat × Nat)} {args args' : List Value} {h : Nat → Option Blk} {w : World} (ha : RelL ρ args args') (hN : args.length ≤ N) (hH : RH M ρ h w) (hf : ∀ m, n ≤ m → ρ m = none) :
    RR M w N (fun m => n ≤ m) ρ ⟨enter args, h, n⟩ { tmps := args'.toArray ++ Array.replicate (N - args'.toArray.size) undef, defers := [] } w := by
  have hl := ha.1
  refine ⟨by simp; omega, rfl, fun k _ => ?_, hH, hf, Kept.refl _ _⟩
  show Rel ρ (args.getD k undef) ((args'.toArray ++ Array.replicate (N - args'.toArray.size) undef).getD k undef)
  by_cases hk : k < args.length
  · have h1 : args.getD k undef = args[k] := by simp [hk]
    have h2 : (args'.toArray ++ Array.replicate (N - args'.toArray.size) undef).getD k undef = args'[k]'(by omega) := by
      simp [Array.getD_eq_getD_getElem?, Array.getElem?_append, show k < args'.length by omega]
    rw [h1, h2]
    exact ha.2 k _ _ (by simp [hk]) (by simp)
  · have h1 : args.getD k undef = undef := by simp [List.getD_eq_getElem?_getD, List.getElem?_eq_none (Nat.le_of_not_lt hk)]
    have h2 : (args'.toArray ++ Array.replicate (N - args'.toArray.size) undef).getD k undef = undef := by
      simp only [Array.getD_eq_getD_getElem?, Array.getElem?_append]
      rw [if_neg (by simp; omega)]
      by_cases h3 : k - args'.toArray.size < N - args'.toArray.size
      · simp only [Array.getElem?_replicate]; split <;> rfl
      · rw [Array.getElem?_eq_none (by simpa using h3)]; rfl
    rw [h1, h2]
    exact .plain rfl

/-- FROM THE BODY TO THE FUNCTION: plain values. -/
theorem pure_of {g N : Nat} {fn : Func} {c : Code} {args : List Value} {v : Value} (hf : P.funcs[g]? = some fn) (hb : fn.body = some c) (hn : fn.ntmps = N) (hg : goodF g = true) (hp : plainL args = true) (hN : args.length ≤ N) (hv : plain v = true)
    (h : VC (B := 0) N c (fun e s' => (e = .normal ∨ e = .ret) ∧ vresult s' fn.results.toList = some v) ⟨enter args, fun _ => none, 0⟩) : Pure g args v := by
  refine ⟨hg, hp, hv, fun w => ?_⟩
  refine calls_of_wp hf hb ?_
  rw [hn]
  have hrr := enter_rr (M := fun r => w.heap.size ≤ r) (N := N) (n := 0) (ρ := fun _ => none) (h := fun _ => none) (w := w) (RelL.refl_of_plain hp) hN ⟨fun _ _ h => (by cases h), fun _ _ _ _ _ _ _ _ h => (by cases h), fun r hr => hr⟩ (fun _ _ => rfl)
  refine wp_mono (h _ _ _ _ _ hrr) ?_
  rintro e a' w' ⟨ρ', s', h1, h2, h3, h4⟩
  obtain ⟨v', h5, h6⟩ := vresult_sound h2 h4
  rw [h6.eq_of_plain hv] at h5
  rcases h3 with rfl | rfl
  · exact ⟨h2.defers, v, h5, rfl, kept_below h2.kept⟩
  · exact ⟨h2.defers, v, h5, rfl, kept_below h2.kept⟩

theorem plainA_eq (c : Array Value) : plainA c = plainL c.toList := by cases c; rfl

/-- THE CALL of a function of plain values, as an operation. -/
theorem sp_pure {o : Oper} {m : Nat} {ev : Operand → Value} {h : Nat → Option Blk} {f : Operand} {args : Array Operand} {ats : Array TypeId} {g : FuncId} {v : Value}
    (ho : o.op = .call { callee := .value f, args := args, argTypes := ats }) (hf : ev f = .func (.func g) #[] #[]) (hp : Pure g (args.toList.map ev) v) : SpOk o m ev h [] (fun v' u => v' = v ∧ u = []) := by
  intro M ρ h' w a _ hev hH _
  have h1 : a.eval f = .func (.func g) #[] #[] := by
    have := hev f (by rw [ho]; simp [Op.operands, Call.operands])
    rw [hf] at this
    exact this.eq_of_plain rfl
  have h2 : args.map a.eval = args.map ev := by
    have hr := relA_map (ρ := ρ) (ev := ev) (a := a) (xs := args) (fun x hx => hev x (by rw [ho]; simp [Op.operands, Call.operands, hx]))
    exact Value.agg.inj ((Rel.agg' hr).eq_of_plain (by have := hp.arg; rw [← Array.toList_map] at this; rw [plain, plainA_eq]; exact this))
  unfold Oper.wp
  have hrun : (execOp a.eval o).run P w = .ok (.enter g (args.map ev)) w := by
    simp only [execOp, ho, resolve, h1, h2, Sem.run_bind, Deferred.ofValue, Sem.run_pure, Result.andThen_ok, invoke, Array.empty_append, Array.append_empty, callFunc_run hp.good]
  rw [hrun]
  have hc := hp.calls w
  rw [← Array.toList_map, Array.toArray_toList] at hc
  refine hc.mono ?_
  rintro e w' ⟨rfl, hb⟩
  refine ⟨v, v, [], ρ, ⟨rfl, rfl⟩, rfl, Ext.refl _, .plain hp.res, ⟨fun k b hk => ?_, hH.inj, fun r hr => hH.new r (Nat.le_trans hb.size hr)⟩, ⟨hb.os, hb.tape, hb.output, hb.size, fun r hr => hb.block r ?_⟩, fun x hx => (by cases hx), fun k hk _ => hk⟩
  · obtain ⟨r, o', h3, h4, h5⟩ := hH.blk k b hk
    exact ⟨r, o', h3, by rw [hb.block r (hH.lt hk h3)]; exact h4, h5⟩
  · rcases Nat.lt_or_ge r w.heap.size with hlt | hge
    · exact hlt
    · exact absurd (hH.new r hge) hr

end Go.Proofs.Ytdfkcijholopoaa.Vm
