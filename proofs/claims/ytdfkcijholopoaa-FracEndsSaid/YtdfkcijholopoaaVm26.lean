/- Calls of functions that write. -/
import Derived.Test.YtdfkcijholopoaaVm25
namespace Go.Proofs.Ytdfkcijholopoaa.Vm
open Go Go.RowKit
set_option linter.unusedSimpArgs false

theorem sp_fc {o : Oper} {m : Nat} {ev : Operand → Value} {h : Nat → Option Blk} {fo : Operand} {args : Array Operand} {ats : Array TypeId} {g : FuncId} {cap : Array Value} {vs : List Value} {n : Nat} {hp : List (Nat × Blk)} {Out : Value → List (Nat × Blk) → Prop} (f : Nat → Nat × Nat)
    (ho : o.op = .call { callee := .value fo, args := args, argTypes := ats }) (hf : ev fo = .func (.func g) #[] cap) (hro : FC g vs n hp Out) (hvs : args.toList.map ev ++ cap.toList = renL f vs) (hR : HasF h f hp) :
    SpOk o m ev h (hp.map fun x => (f x.1).1) (fun v' u' => ∃ v u, Out v u ∧ v' = renV (toF f n m) v ∧ u' = renU (toF f n m) u) := by
  intro M ρ h' w a hh hev hH hm
  have h0 := hev fo (by rw [ho]; simp [Op.operands, Call.operands])
  rw [hf] at h0
  obtain ⟨a0, cap', h1, ha0, hcap⟩ := h0.func_inv
  have ha1 : a0 = #[] := by
    have := ha0.1
    simp at this
    exact Array.eq_empty_of_size_eq_zero this.symm
  subst ha1
  have h2 : RelL ρ (renL f vs) (args.toList.map a.eval ++ cap'.toList) := by
    have hr := relA_map (ρ := ρ) (ev := ev) (a := a) (xs := args) (fun x hx => hev x (by rw [ho]; simp [Op.operands, Call.operands, hx]))
    have hl : RelL ρ (args.toList.map ev) (args.toList.map a.eval) := ⟨by simp, fun i v v' h1 h2 => hr.2 i v v' (by simpa using h1) (by simpa using h2)⟩
    have hc2 := hcap.toL
    rw [← hvs]
    exact hl.append hc2
  unfold Oper.wp
  have hrun : (execOp a.eval o).run P w = .ok (.enter g (args.map a.eval ++ cap')) w := by
    simp only [execOp, ho, resolve, h1, Sem.run_bind, Deferred.ofValue, Sem.run_pure, Result.andThen_ok, invoke, Array.empty_append, callFunc_run hro.good]
  rw [hrun]
  have hR' : HasF h' f hp := by
    refine ⟨fun x hx => ?_, hR.2⟩
    obtain ⟨b, h3, h4⟩ := hR.1 x hx
    exact ⟨b, by rw [hh _ (List.mem_map.2 ⟨x, hx, rfl⟩)]; exact h3, h4⟩
  have hc := hro.calls M ρ h' w f m (args.toList.map a.eval ++ cap'.toList) hR' hH hm h2
  have harr : (args.toList.map a.eval ++ cap'.toList).toArray = args.map a.eval ++ cap' := by
    rw [← Array.toList_map, ← Array.toList_append]
  rw [harr] at hc
  refine hc.mono ?_
  rintro e w' ⟨v, v', u, ρ', q1, rfl, q3, q4, q5, q6, q7, q8⟩
  exact ⟨_, v', _, ρ', ⟨v, u, q1, rfl, rfl⟩, rfl, q3, q4, q5, q6, q7, q8⟩

theorem runD_sp {ops : Array Oper} {U : List (Nat × Nat)} {base i : Nat} {o : Oper} {rest : List Oper} {log : Log} {t : Nat → Value} {h : Nat → Option Blk} {n : Nat} {K : St → Prop} {rd : List Nat} {Out : Value → List (Nat × Blk) → Prop} (hs : SpOk o (base + i) (evT t) h rd Out) (hk : kd o.op = .sp) (hv : vex (evT t) h o.op = none) (hw : wantV ops o t = some true)
    (hne : ∃ v u, Out v u) (hc : ∀ v u, Out v u → chkB U log i rd (u.map (·.1)) = true) (k : ∀ v u, Out v u → W ops U base (i + 1) rest ((i, rd, u.map (·.1)) :: log) (putT t o.dst v) (updL h u) (bump n u) K) : W ops U base i (o :: rest) log t h n K := by
  intro log' hl
  rw [evT_eq t h n] at hs hv
  unfold vgoD
  simp only [hw, hv]
  refine ⟨hk, _, _, hs, hne, fun v u hu => ⟨hl.chk (chk_of_B (hc v u hu)), ?_⟩⟩
  rw [app_putT]
  exact k v u hu _ (hl.cons _)

/-- A call of a function that writes. -/
theorem run_fc {ops : Array Oper} {base i : Nat} {o : Oper} {rest : List Oper} {t : Nat → Value} {h : Nat → Option Blk} {n0 : Nat} {K : St → Prop} {fo : Operand} {args : Array Operand} {ats : Array TypeId} {g : FuncId} {cap : Array Value} {vs : List Value} {n : Nat} {hp : List (Nat × Blk)} {Out : Value → List (Nat × Blk) → Prop} (f : Nat → Nat × Nat)
    (hro : FC g vs n hp Out) (hR : HasF h f hp) (ho : o.op = .call { callee := .value fo, args := args, argTypes := ats }) (hf : evT t fo = .func (.func g) #[] cap) (ha : args.toList.map (evT t) ++ cap.toList = renL f vs) (hw : wantV ops o t = some true) (hne : ∃ v u, Out v u)
    (k : ∀ v u, Out v u → vgo ops base (i + 1) rest ⟨putT t o.dst (renV (toF f n (base + i)) v), updL h (renU (toF f n (base + i)) u), bump n0 (renU (toF f n (base + i)) u)⟩ K) : vgo ops base i (o :: rest) ⟨t, h, n0⟩ K := by
  have hs := sp_fc (m := base + i) f ho hf hro ha hR
  refine run_sp hs (by rw [ho]; rfl) (by rw [ho]; rfl) hw ?_ ?_
  · obtain ⟨v, u, hvu⟩ := hne
    exact ⟨_, _, v, u, hvu, rfl, rfl⟩
  · rintro _ _ ⟨v, u, hvu, rfl, rfl⟩
    exact k v u hvu
theorem runD_fc {ops : Array Oper} {U : List (Nat × Nat)} {base i : Nat} {o : Oper} {rest : List Oper} {log : Log} {t : Nat → Value} {h : Nat → Option Blk} {n0 : Nat} {K : St → Prop} {fo : Operand} {args : Array Operand} {ats : Array TypeId} {g : FuncId} {cap : Array Value} {vs : List Value} {n : Nat} {hp : List (Nat × Blk)} {Out : Value → List (Nat × Blk) → Prop} (f : Nat → Nat × Nat)
    (hro : FC g vs n hp Out) (hR : HasF h f hp) (ho : o.op = .call { callee := .value fo, args := args, argTypes := ats }) (hf : evT t fo = .func (.func g) #[] cap) (ha : args.toList.map (evT t) ++ cap.toList = renL f vs) (hw : wantV ops o t = some true) (hne : ∃ v u, Out v u)
    (hc : ∀ v u, Out v u → chkB U log i (hp.map fun x => (f x.1).1) ((renU (toF f n (base + i)) u).map (·.1)) = true)
    (k : ∀ v u, Out v u → W ops U base (i + 1) rest ((i, hp.map fun x => (f x.1).1, (renU (toF f n (base + i)) u).map (·.1)) :: log) (putT t o.dst (renV (toF f n (base + i)) v)) (updL h (renU (toF f n (base + i)) u)) (bump n0 (renU (toF f n (base + i)) u)) K) : W ops U base i (o :: rest) log t h n0 K := by
  have hs := sp_fc (m := base + i) f ho hf hro ha hR
  refine runD_sp hs (by rw [ho]; rfl) (by rw [ho]; rfl) hw ?_ ?_ ?_
  · obtain ⟨v, u, hvu⟩ := hne
    exact ⟨_, _, v, u, hvu, rfl, rfl⟩
  · rintro _ _ ⟨v, u, hvu, rfl, rfl⟩
    exact hc v u hvu
  · rintro _ _ ⟨v, u, hvu, rfl, rfl⟩
    exact k v u hvu

/-! ### What the caller has -/
def SbF (h : Nat → Option Blk) (f : Nat → Nat × Nat) (k : Nat) (b : Blk) : Prop := ∃ b1, h (f k).1 = some b1 ∧ SubB f (f k).2 b b1
def HasFl (h : Nat → Option Blk) (f : Nat → Nat × Nat) : List (Nat × Blk) → Prop
  | [] => True
  | (k, b) :: l => SbF h f k b ∧ HasFl h f l
theorem HasFl.mem {h : Nat → Option Blk} {f : Nat → Nat × Nat} : ∀ {l : List (Nat × Blk)}, HasFl h f l → ∀ x ∈ l, SbF h f x.1 x.2
  | [], _, x, hx => by cases hx
  | y :: l, hl, x, hx => by
    rcases List.mem_cons.1 hx with rfl | hx
    · exact hl.1
    · exact hl.2.mem x hx
def injF (f : Nat → Nat × Nat) (hp : List (Nat × Bool)) : Bool := hp.all fun x => !x.2 || hp.all fun y => decide (x.1 = y.1) || decide ((f x.1).1 ≠ (f y.1).1)
theorem hasF {h : Nat → Option Blk} {f : Nat → Nat × Nat} {hp : List (Nat × Blk)} (h1 : HasFl h f hp) (h2 : injF f (hp.map fun x => (x.1, x.2.own)) = true) : HasF h f hp := by
  refine ⟨fun x hx => h1.mem x hx, fun x hx y hy hne ho => ?_⟩
  have h3 := List.all_eq_true.1 h2 (x.1, x.2.own) (List.mem_map.2 ⟨x, hx, rfl⟩)
  simp only [ho, Bool.not_true, Bool.false_or] at h3
  have h4 := List.all_eq_true.1 h3 (y.1, y.2.own) (List.mem_map.2 ⟨y, hy, rfl⟩)
  simpa [hne] using h4
theorem sf_own {h : Nat → Option Blk} {f : Nat → Nat × Nat} {k : Nat} {c : List Value} {t : TypeId} (e : h (f k).1 = some (.cells (renL f c) t true)) (ho : (f k).2 = 0) : SbF h f k (.cells c t true) := ⟨_, e, ho, rfl, rfl, rfl⟩
theorem sf_ownp {h : Nat → Option Blk} {f : Nat → Nat × Nat} {k : Nat} {c : List Value} {t : TypeId} (hp : plainL c = true) (e : h (f k).1 = some (.cells c t true)) (ho : (f k).2 = 0) : SbF h f k (.cells c t true) := ⟨_, e, ho, rfl, rfl, (renL_plain f hp).symm⟩
theorem sf_win {h : Nat → Option Blk} {f : Nat → Nat × Nat} {k : Nat} {c c1 : List Value} {t t1 : TypeId} {own : Bool} (e : h (f k).1 = some (.cells c1 t1 own)) (hw : ∀ (i : Nat) (v : Value), c[i]? = some v → c1[(f k).2 + i]? = some (renV f v)) : SbF h f k (.cells c t false) := ⟨_, e, hw⟩
theorem sf_winp {h : Nat → Option Blk} {f : Nat → Nat × Nat} {k : Nat} {c c1 : List Value} {t t1 : TypeId} {own : Bool} (hp : plainL c = true) (e : h (f k).1 = some (.cells c1 t1 own)) (hw : ∀ (i : Nat) (v : Value), c[i]? = some v → c1[(f k).2 + i]? = some v) : SbF h f k (.cells c t false) :=
  ⟨_, e, fun i v hv => by rw [renV_plain f v ((plainL_iff c).1 hp v (List.mem_of_getElem? hv))]; exact hw i v hv⟩
theorem get_zero {c : List Value} : ∀ (i : Nat) (v : Value), c[i]? = some v → c[0 + i]? = some v := fun i v h => by rw [Nat.zero_add]; exact h
theorem get_zero_app {a b : List Value} : ∀ (i : Nat) (v : Value), a[i]? = some v → (a ++ b)[0 + i]? = some v := fun i v h => by rw [Nat.zero_add]; exact get_app i v h

end Go.Proofs.Ytdfkcijholopoaa.Vm
