/- Functions that read a caller's memory; steps at an index that is a variable. -/
import Derived.Test.YtdfkcijholopoaaVm15
namespace Go.Proofs.Ytdfkcijholopoaa.Vm
open Go Go.RowKit
set_option linter.unusedSimpArgs false

mutual
/-- Its addresses' names, turned by f. -/
def renV (f : Nat → Nat × Nat) : Value → Value
  | .pointer (some ⟨m, k, sp⟩) => .pointer (some ⟨(f m).1, (f m).2 + k, sp⟩)
  | .slice (some ⟨m, k, sp⟩) l c => .slice (some ⟨(f m).1, (f m).2 + k, sp⟩) l c
  | .func fn a c => .func fn (renA f a) (renA f c)
  | .agg cs => .agg (renA f cs)
  | .tuple vs => .tuple (renA f vs)
  | v => v
def renA (f : Nat → Nat × Nat) : Array Value → Array Value
  | ⟨l⟩ => ⟨renL f l⟩
def renL (f : Nat → Nat × Nat) : List Value → List Value
  | [] => []
  | v :: l => renV f v :: renL f l
/-- All names in it are below n. -/
def bdV (n : Nat) : Value → Bool
  | .pointer (some ⟨m, _, _⟩) => decide (m < n)
  | .slice (some ⟨m, _, _⟩) _ _ => decide (m < n)
  | .map (some _) => false
  | .func _ a c => bdA n a && bdA n c
  | .agg cs => bdA n cs
  | .tuple vs => bdA n vs
  | .iface _ v => plain v
  | .chan (some _) => false
  | _ => true
def bdA (n : Nat) : Array Value → Bool
  | ⟨l⟩ => bdL n l
def bdL (n : Nat) : List Value → Bool
  | [] => true
  | v :: l => bdV n v && bdL n l
end

theorem renL_get (f : Nat → Nat × Nat) : ∀ (l : List Value) (i : Nat), (renL f l)[i]? = (l[i]?).map (renV f)
  | [], i => by simp [renL]
  | v :: l, 0 => by simp [renL]
  | v :: l, i + 1 => by simp [renL, renL_get f l i]
theorem renA_get (f : Nat → Nat × Nat) (c : Array Value) (i : Nat) : (renA f c)[i]? = (c[i]?).map (renV f) := by
  obtain ⟨l⟩ := c
  simpa [renA] using renL_get f l i
theorem renA_size (f : Nat → Nat × Nat) (c : Array Value) : (renA f c).size = c.size := by
  obtain ⟨l⟩ := c
  have : ∀ l, (renL f l).length = l.length := by
    intro l
    induction l with
    | nil => rfl
    | cons v l ih => simp [renL, ih]
  simpa [renA] using this l
theorem bdL_get {n : Nat} : ∀ {l : List Value}, bdL n l = true → ∀ {i : Nat} {v : Value}, l[i]? = some v → bdV n v = true
  | [], _, i, v, h => by simp at h
  | x :: l, hb, 0, v, h => by simp [bdL] at hb; simp at h; subst h; exact hb.1
  | x :: l, hb, i + 1, v, h => by simp [bdL] at hb; exact bdL_get hb.2 (by simpa using h)
theorem bdA_get {n : Nat} {c : Array Value} (hb : bdA n c = true) {i : Nat} {v : Value} (h : c[i]? = some v) : bdV n v = true := by
  obtain ⟨l⟩ := c
  exact bdL_get (l := l) (by simpa [bdA] using hb) (by simpa using h)

def resV (ρ : Nat → Option (Nat × Nat)) (f : Nat → Nat × Nat) (n : Nat) (k : Nat) : Option (Nat × Nat) := if k < n then (ρ (f k).1).map fun x => (x.1, x.2 + (f k).2) else none
/-- The renaming, back: what stands for the turned value stands for the value. -/
theorem Rel.ren {ρ : Nat → Option (Nat × Nat)} {f : Nat → Nat × Nat} {n : Nat} : ∀ {u x : Value}, Rel ρ x u → ∀ v, x = renV f v → bdV n v = true → Rel (resV ρ f n) v u := by
  intro u x h
  have arr : ∀ {c' c : Array Value}, (∀ (i : Nat) (v v' : Value), (renA f c)[i]? = some v → c'[i]? = some v' → ∀ v0, v = renV f v0 → bdV n v0 = true → Rel (resV ρ f n) v0 v') → bdA n c = true →
      ∀ (i : Nat) (v v' : Value), c[i]? = some v → c'[i]? = some v' → Rel (resV ρ f n) v v' := by
    intro c' c ih hb i v v' h1 h2
    exact ih i (renV f v) v' (by rw [renA_get, h1]; rfl) h2 v rfl (bdA_get hb h1)
  induction h with
  | @plain x hp =>
    intro v hx hb
    have key : ∀ (v : Value), bdV n v = true → Vm.plain (renV f v) = true → renV f v = v ∧ Vm.plain v = true := by
      intro v
      refine Value.rec (motive_1 := fun v => bdV n v = true → Vm.plain (renV f v) = true → renV f v = v ∧ Vm.plain v = true)
        (motive_2 := fun c => bdA n c = true → plainA (renA f c) = true → renA f c = c ∧ plainA c = true) (motive_3 := fun l => bdL n l = true → plainL (renL f l) = true → renL f l = l ∧ plainL l = true)
        ?_ ?_ ?_ ?_ ?_ ?_ ?_ ?_ ?_ ?_ ?_ ?_ ?_ ?_ ?_ ?_ ?_ ?_ v
      · intro b _ _; exact ⟨rfl, rfl⟩
      · intro k n _ _; exact ⟨rfl, rfl⟩
      · intro k n _ _; exact ⟨rfl, rfl⟩
      · intro k n m _ _; exact ⟨rfl, rfl⟩
      · intro s _ _; exact ⟨rfl, rfl⟩
      · intro a _ h
        cases a with
        | none => exact ⟨rfl, rfl⟩
        | some a => simp [renV, Vm.plain] at h
      · intro a l c _ h
        cases a with
        | none => exact ⟨rfl, rfl⟩
        | some a => simp [renV, Vm.plain] at h
      · intro r _ h
        cases r with
        | none => exact ⟨rfl, rfl⟩
        | some r => simp [renV, Vm.plain] at h
      · intro r hb h
        cases r with
        | none => exact ⟨rfl, rfl⟩
        | some r => simp [bdV] at hb
      · intro fn a c iha ihc hb h
        simp only [bdV, Bool.and_eq_true] at hb
        simp only [renV, Vm.plain, Bool.and_eq_true] at h
        obtain ⟨e1, e2⟩ := iha hb.1 h.1
        obtain ⟨e3, e4⟩ := ihc hb.2 h.2
        exact ⟨by simp only [renV, e1, e3], by simp only [Vm.plain, e2, e4, Bool.and_self]⟩
      · intro _ _; exact ⟨rfl, rfl⟩
      · intro t v _ hb h; exact ⟨rfl, by simpa [renV, Vm.plain] using h⟩
      · intro _ _; exact ⟨rfl, rfl⟩
      · intro c ih hb h
        simp only [bdV] at hb
        simp only [renV, Vm.plain] at h
        obtain ⟨e1, e2⟩ := ih hb h
        exact ⟨by simp only [renV, e1], by simp only [Vm.plain, e2]⟩
      · intro c ih hb h
        simp only [bdV] at hb
        simp only [renV, Vm.plain] at h
        obtain ⟨e1, e2⟩ := ih hb h
        exact ⟨by simp only [renV, e1], by simp only [Vm.plain, e2]⟩
      · intro l ih hb h
        simp only [bdA] at hb
        simp only [renA, plainA] at h
        obtain ⟨e1, e2⟩ := ih hb h
        exact ⟨by simp only [renA, e1], by simp only [plainA, e2]⟩
      · intro _ _; exact ⟨rfl, rfl⟩
      · intro v l ihv ihl hb h
        simp only [bdL, Bool.and_eq_true] at hb
        simp only [renL, plainL, Bool.and_eq_true] at h
        obtain ⟨e1, e2⟩ := ihv hb.1 h.1
        obtain ⟨e3, e4⟩ := ihl hb.2 h.2
        exact ⟨by simp only [renL, e1, e3], by simp only [plainL, e2, e4, Bool.and_self]⟩
    obtain ⟨e1, e2⟩ := key v hb (hx ▸ hp)
    rw [hx, e1]
    exact .plain e2
  | @ptr m k r o hm =>
    intro v hx hb
    cases v with
    | pointer a =>
      cases a with
      | none => simp [renV] at hx
      | some a =>
        obtain ⟨m', k', sp⟩ := a
        simp only [renV, Value.pointer.injEq, Option.some.injEq, Addr.mk.injEq] at hx
        obtain ⟨rfl, rfl, rfl⟩ := hx
        simp only [bdV, decide_eq_true_eq] at hb
        rw [← Nat.add_assoc]
        exact .ptr (by simp only [resV, if_pos hb, hm, Option.map_some])
    | slice a l c => cases a <;> simp [renV] at hx
    | map a => cases a <;> simp [renV] at hx
    | _ => simp [renV] at hx
  | @slice m k r o l c hm =>
    intro v hx hb
    cases v with
    | slice a l' c' =>
      cases a with
      | none => simp [renV] at hx
      | some a =>
        obtain ⟨m', k', sp⟩ := a
        simp only [renV, Value.slice.injEq, Option.some.injEq, Addr.mk.injEq] at hx
        obtain ⟨⟨rfl, rfl, rfl⟩, rfl, rfl⟩ := hx
        simp only [bdV, decide_eq_true_eq] at hb
        rw [← Nat.add_assoc]
        exact .slice (by simp only [resV, if_pos hb, hm, Option.map_some])
    | pointer a => cases a <;> simp [renV] at hx
    | map a => cases a <;> simp [renV] at hx
    | _ => simp [renV] at hx
  | @map m r hm =>
    intro v hx hb
    cases v with
    | map a =>
      cases a with
      | none => simp [renV] at hx
      | some m' =>
        simp [bdV] at hb
    | pointer a => cases a <;> simp [renV] at hx
    | slice a l c => cases a <;> simp [renV] at hx
    | _ => simp [renV] at hx
  | @func fn a a' c c' h1 h2 h3 h4 ih1 ih2 =>
    intro v hx hb
    cases v with
    | func fn0 a0 c0 =>
      simp only [renV, Value.func.injEq] at hx
      obtain ⟨rfl, rfl, rfl⟩ := hx
      simp only [bdV, Bool.and_eq_true] at hb
      exact .func (by rw [← h1, renA_size]) (arr (fun i v v' x y => ih1 i v v' x y) hb.1) (by rw [← h3, renA_size]) (arr (fun i v v' x y => ih2 i v v' x y) hb.2)
    | pointer a => cases a <;> simp [renV] at hx
    | slice a l c => cases a <;> simp [renV] at hx
    | map a => cases a <;> simp [renV] at hx
    | _ => simp [renV] at hx
  | @agg c c' h1 h2 ih =>
    intro v hx hb
    cases v with
    | agg c0 =>
      simp only [renV, Value.agg.injEq] at hx
      subst hx
      simp only [bdV] at hb
      exact .agg (by rw [← h1, renA_size]) (arr (fun i v v' x y => ih i v v' x y) hb)
    | pointer a => cases a <;> simp [renV] at hx
    | slice a l c => cases a <;> simp [renV] at hx
    | map a => cases a <;> simp [renV] at hx
    | _ => simp [renV] at hx
  | @tuple c c' h1 h2 ih =>
    intro v hx hb
    cases v with
    | tuple c0 =>
      simp only [renV, Value.tuple.injEq] at hx
      subst hx
      simp only [bdV] at hb
      exact .tuple (by rw [← h1, renA_size]) (arr (fun i v v' x y => ih i v v' x y) hb)
    | pointer a => cases a <;> simp [renV] at hx
    | slice a l c => cases a <;> simp [renV] at hx
    | map a => cases a <;> simp [renV] at hx
    | _ => simp [renV] at hx

/-- What is known of the blocks that a call reads: the callee's block k is a window of the caller's block (f k).1, that begins at (f k).2. -/
def HasR (h : Nat → Option Blk) (f : Nat → Nat × Nat) (hp : List (Nat × List Value)) : Prop :=
  ∀ x ∈ hp, ∃ c t own, h (f x.1).1 = some (.cells c t own) ∧ ∀ i v, x.2[i]? = some v → c[(f x.1).2 + i]? = some v

/-- A FUNCTION THAT READS: called with these, where its slices' blocks hold what hp says, it returns v, and turns nothing that was there. -/
structure RO (g : FuncId) (vs : List Value) (hp : List (Nat × List Value)) (v : Value) : Prop where
  good : goodF g = true
  res : plain v = true
  calls : ∀ (M : Nat → Prop) (ρ : Nat → Option (Nat × Nat)) (h : Nat → Option Blk) (w : World) (f : Nat → Nat × Nat) (vs' : List Value), HasR h f hp → RH M ρ h w → RelL ρ (renL f vs) vs' → Calls P g vs'.toArray w (fun e w' => e = .returned v ∧ Below w.heap.size w w')

def roB (hp : List (Nat × List Value)) : List (Nat × Blk) := hp.map fun x => (x.1, .cells x.2 0 false)
theorem roB_get : ∀ {hp : List (Nat × List Value)} {m : Nat} {b : Blk}, updH (fun _ => none) (roB hp) m = some b → ∃ x ∈ hp, x.1 = m ∧ b = .cells x.2 0 false
  | [], m, b, hm => by cases hm
  | x :: hp, m, b, hm => by
    simp only [roB, List.map_cons, updH] at hm
    by_cases e : m = x.1
    · subst e
      rw [upd_same] at hm
      cases hm
      exact ⟨x, by simp, rfl, rfl⟩
    · rw [upd_ne _ _ e] at hm
      obtain ⟨y, h1, h2, h3⟩ := roB_get hm
      exact ⟨y, by simp [h1], h2, h3⟩

/-- FROM THE BODY: a function that reads. Its blocks' names are those of hp, below n. -/
theorem ro_of {g N : Nat} {fn : Func} {c : Code} {vs : List Value} {v : Value} (hp : List (Nat × List Value)) (n : Nat) (hf : P.funcs[g]? = some fn) (hb : fn.body = some c) (hn : fn.ntmps = N) (hg : goodF g = true) (hN : vs.length ≤ N) (hv : plain v = true)
    (hbd : bdL n vs = true) (hpn : ∀ x ∈ hp, x.1 < n) (hpl : ∀ x ∈ hp, plainL x.2 = true)
    (h : VC (B := 0) N c (fun e s' => (e = .normal ∨ e = .ret) ∧ vresult s' fn.results.toList = some v) ⟨enter vs, updH (fun _ => none) (roB hp), n⟩) : RO g vs hp v := by
  refine ⟨hg, hv, fun M ρ h0 w f vs' hR hH hrel => ?_⟩
  refine calls_of_wp hf hb ?_
  rw [hn]
  have hrel' : RelL (resV ρ f n) vs vs' := by
    refine ⟨?_, fun i x x' hx hx' => ?_⟩
    · rw [← hrel.1, show ∀ l, (renL f l).length = l.length from fun l => by simpa [renA] using renA_size f ⟨l⟩]
    · exact Rel.ren (hrel.2 i _ x' (by rw [renL_get, hx]; rfl) hx') x rfl (bdL_get hbd hx)
  have hH' : RH (fun r => w.heap.size ≤ r) (resV ρ f n) (updH (fun _ => none) (roB hp)) w := by
    refine ⟨fun m b hm => ?_, fun m m' b b' r o r' o' hm _ _ hown => ?_, fun r hr => hr⟩
    · obtain ⟨x, hx, rfl, rfl⟩ := roB_get hm
      obtain ⟨c, t, own, h1, hc⟩ := hR x hx
      obtain ⟨r, o, h2, h3, _⟩ := hH.blk _ _ h1
      refine ⟨r, o + (f x.1).2, by simp only [resV, if_pos (hpn x hx), h2, Option.map_some], ?_, fun h => by cases h⟩
      have hpv : ∀ {i : Nat} {v : Value}, x.2[i]? = some v → plain v = true := fun {i v} hv => (plainL_iff _).1 (hpl x hx) v (List.mem_of_getElem? hv)
      cases own with
      | true =>
        obtain ⟨c', h5, h6, h7⟩ := h3
        refine ⟨c', t, (0, 0), h5, fun i v hv => ?_⟩
        have h8 := hc i v hv
        obtain ⟨hlt, _⟩ := List.getElem?_eq_some_iff.1 h8
        have hlt' : (f x.1).2 + i < c'.toList.length := by rw [← h7.1]; exact hlt
        have h9 := h7.2 _ v (c'.toList[(f x.1).2 + i]) h8 (List.getElem?_eq_getElem hlt')
        refine ⟨v, ?_, .plain (hpv hv)⟩
        rw [h6, Nat.zero_add, ← h9.eq_of_plain (hpv hv)]
        simp
      | false =>
        obtain ⟨c', t', fz, h5, h6⟩ := h3
        refine ⟨c', t', fz, h5, fun i v hv => ?_⟩
        obtain ⟨v', h7, h8⟩ := h6 _ v (hc i v hv)
        exact ⟨v', by rw [Nat.add_assoc]; exact h7, by rw [h8.eq_of_plain (hpv hv)]; exact .plain (hpv hv)⟩
    · obtain ⟨x, hx, rfl, rfl⟩ := roB_get hm
      cases hown
  have hrr := enter_rr (M := fun r => w.heap.size ≤ r) (N := N) (n := n) (h := updH (fun _ => none) (roB hp)) (w := w) hrel' hN hH' (fun m hm => if_neg (by omega))
  refine wp_mono (h _ _ _ _ _ hrr) ?_
  rintro e a' w' ⟨ρ', s', h1, h2, h3, h4⟩
  obtain ⟨v', h5, h6⟩ := vresult_sound h2 h4
  rw [h6.eq_of_plain hv] at h5
  rcases h3 with rfl | rfl
  · exact ⟨h2.defers, v, h5, rfl, kept_below h2.kept⟩
  · exact ⟨h2.defers, v, h5, rfl, kept_below h2.kept⟩

theorem sp_ro {o : Oper} {m : Nat} {ev : Operand → Value} {h : Nat → Option Blk} {fo : Operand} {args : Array Operand} {ats : Array TypeId} {g : FuncId} {v : Value} {vs : List Value} {hp : List (Nat × List Value)} (f : Nat → Nat × Nat)
    (ho : o.op = .call { callee := .value fo, args := args, argTypes := ats }) (hf : ev fo = .func (.func g) #[] #[]) (hro : RO g vs hp v) (hvs : args.toList.map ev = renL f vs) (hR : HasR h f hp) : SpOk o m ev h (hp.map fun x => (f x.1).1) (fun v' u => v' = v ∧ u = []) := by
  intro M ρ h' w a hh hev hH _
  have h1 : a.eval fo = .func (.func g) #[] #[] := by
    have := hev fo (by rw [ho]; simp [Op.operands, Call.operands])
    rw [hf] at this
    exact this.eq_of_plain rfl
  have h2 : RelL ρ (renL f vs) (args.toList.map a.eval) := by
    have hr := relA_map (ρ := ρ) (ev := ev) (a := a) (xs := args) (fun x hx => hev x (by rw [ho]; simp [Op.operands, Call.operands, hx]))
    rw [← hvs]
    exact ⟨by simp, fun i v v' h1 h2 => hr.2 i v v' (by simpa using h1) (by simpa using h2)⟩
  unfold Oper.wp
  have hrun : (execOp a.eval o).run P w = .ok (.enter g (args.map a.eval)) w := by
    simp only [execOp, ho, resolve, h1, Sem.run_bind, Deferred.ofValue, Sem.run_pure, Result.andThen_ok, invoke, Array.empty_append, Array.append_empty, callFunc_run hro.good]
  rw [hrun]
  have hR' : HasR h' f hp := by
    intro x hx
    obtain ⟨c, t, own, h3, h4⟩ := hR x hx
    exact ⟨c, t, own, by rw [hh _ (List.mem_map.2 ⟨x, hx, rfl⟩)]; exact h3, h4⟩
  have hc := hro.calls M ρ h' w f (args.toList.map a.eval) hR' hH h2
  rw [← Array.toList_map, Array.toArray_toList] at hc
  refine hc.mono ?_
  rintro e w' ⟨rfl, hb⟩
  refine ⟨v, v, [], ρ, ⟨rfl, rfl⟩, rfl, Ext.refl _, .plain hro.res, ⟨fun k b hk => ?_, hH.inj, fun r hr => hH.new r (Nat.le_trans hb.size hr)⟩, ⟨hb.os, hb.tape, hb.output, hb.size, fun r hr => hb.block r ?_⟩, fun x hx => (by cases hx), fun k hk _ => hk⟩
  · obtain ⟨r, o', h3, h4, h5⟩ := hH.blk k b hk
    exact ⟨r, o', h3, by rw [hb.block r (hH.lt hk h3)]; exact h4, h5⟩
  · rcases Nat.lt_or_ge r w.heap.size with hlt | hge
    · exact hlt
    · exact absurd (hH.new r hge) hr

/-- A call of a function that reads. -/
theorem run_ro {ops : Array Oper} {base i : Nat} {o : Oper} {rest : List Oper} {t : Nat → Value} {h : Nat → Option Blk} {n : Nat} {K : St → Prop} {fo : Operand} {args : Array Operand} {ats : Array TypeId} {g : FuncId} {v : Value} {vs : List Value} {hp : List (Nat × List Value)} (f : Nat → Nat × Nat)
    (hro : RO g vs hp v) (hR : HasR h f hp) (ho : o.op = .call { callee := .value fo, args := args, argTypes := ats }) (ha : args.toList.map (evT t) = renL f vs) (hw : wantV ops o t = some true) (hf : evT t fo = .func (.func g) #[] #[])
    (k : vgo ops base (i + 1) rest ⟨putT t o.dst v, h, n⟩ K) : vgo ops base i (o :: rest) ⟨t, h, n⟩ K := by
  rw [evT_eq t h n] at ha hf
  have hv : vex (⟨t, h, n⟩ : St).ev h o.op = none := by rw [ho]; rfl
  have hk : kd o.op = .sp := by rw [ho]; rfl
  unfold vgo
  simp only [hw, hv]
  refine ⟨hk, _, _, sp_ro f ho hf hro ha hR, ⟨v, [], rfl, rfl⟩, ?_⟩
  rintro v' u ⟨rfl, rfl⟩
  rw [app_putT]
  exact k

theorem runD_ro {ops : Array Oper} {U : List (Nat × Nat)} {base i : Nat} {o : Oper} {rest : List Oper} {log : Log} {t : Nat → Value} {h : Nat → Option Blk} {n : Nat} {K : St → Prop} {fo : Operand} {args : Array Operand} {ats : Array TypeId} {g : FuncId} {v : Value} {vs : List Value} {hp : List (Nat × List Value)} (f : Nat → Nat × Nat)
    (hro : RO g vs hp v) (hR : HasR h f hp) (ho : o.op = .call { callee := .value fo, args := args, argTypes := ats }) (ha : args.toList.map (evT t) = renL f vs) (hw : wantV ops o t = some true) (hf : evT t fo = .func (.func g) #[] #[]) (hc : chkB U log i (hp.map fun x => (f x.1).1) [] = true)
    (k : W ops U base (i + 1) rest ((i, hp.map fun x => (f x.1).1, []) :: log) (putT t o.dst v) h n K) : W ops U base i (o :: rest) log t h n K := by
  intro log' hl
  rw [evT_eq t h n] at ha hf
  have hv : vex (⟨t, h, n⟩ : St).ev h o.op = none := by rw [ho]; rfl
  have hk : kd o.op = .sp := by rw [ho]; rfl
  unfold vgoD
  simp only [hw, hv]
  refine ⟨hk, _, _, sp_ro f ho hf hro ha hR, ⟨v, [], rfl, rfl⟩, ?_⟩
  rintro v' u ⟨rfl, rfl⟩
  refine ⟨hl.chk (chk_of_B hc), ?_⟩
  rw [app_putT]
  exact k _ (hl.cons _)

end Go.Proofs.Ytdfkcijholopoaa.Vm
