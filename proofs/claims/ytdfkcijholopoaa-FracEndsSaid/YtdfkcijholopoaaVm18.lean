/- Functions that read a caller's memory, which may hold addresses; closures called. -/
import Derived.Test.YtdfkcijholopoaaVm17
namespace Go.Proofs.Ytdfkcijholopoaa.Vm
open Go Go.RowKit
set_option linter.unusedSimpArgs false

/-- As HasR, for cells that may hold addresses: turned by f they are the caller's. -/
def HasC (h : Nat → Option Blk) (f : Nat → Nat × Nat) (hp : List (Nat × List Value)) : Prop :=
  ∀ x ∈ hp, ∃ c t own, h (f x.1).1 = some (.cells c t own) ∧ ∀ i v, x.2[i]? = some v → c[(f x.1).2 + i]? = some (renV f v)

structure RC (g : FuncId) (vs : List Value) (hp : List (Nat × List Value)) (v : Value) : Prop where
  good : goodF g = true
  res : plain v = true
  calls : ∀ (M : Nat → Prop) (ρ : Nat → Option (Nat × Nat)) (h : Nat → Option Blk) (w : World) (f : Nat → Nat × Nat) (vs' : List Value), HasC h f hp → RH M ρ h w → RelL ρ (renL f vs) vs' → Calls P g vs'.toArray w (fun e w' => e = .returned v ∧ Below w.heap.size w w')

theorem rc_of {g N : Nat} {fn : Func} {c : Code} {vs : List Value} {v : Value} (hp : List (Nat × List Value)) (n : Nat) (hf : P.funcs[g]? = some fn) (hb : fn.body = some c) (hn : fn.ntmps = N) (hg : goodF g = true) (hN : vs.length ≤ N) (hv : plain v = true)
    (hbd : bdL n vs = true) (hpn : ∀ x ∈ hp, x.1 < n) (hpl : ∀ x ∈ hp, bdL n x.2 = true)
    (h : VC (B := 0) N c (fun e s' => (e = .normal ∨ e = .ret) ∧ vresult s' fn.results.toList = some v) ⟨enter vs, updH (fun _ => none) (roB hp), n⟩) : RC g vs hp v := by
  refine ⟨hg, hv, fun M ρ h0 w f vs' hR hH hrel => ?_⟩
  refine calls_of_wp hf hb ?_
  rw [hn]
  have hrel' : RelL (resV ρ f n) vs vs' := by
    refine ⟨?_, fun i x x' hx hx' => ?_⟩
    · rw [← hrel.1, show ∀ l, (renL f l).length = l.length from fun l => by simpa [renA] using renA_size f ⟨l⟩]
    · exact Rel.ren (hrel.2 i _ x' (by rw [renL_get, hx]; rfl) hx') x rfl (bdL_get hbd hx)
  have hH' : RH (fun r => w.heap.size ≤ r) (resV ρ f n) (updH (fun _ => none) (roB hp)) w := by
    refine ⟨fun m b hm => ?_, fun m m' b b' r o r' o' hm _ _ hown => ?_, fun r hr => hr⟩
    · obtain ⟨x, hx, rfl, rfl⟩ := roB_get hm
      obtain ⟨c, t, own, h1, hc⟩ := hR x hx
      obtain ⟨r, o, h2, h3, _⟩ := hH.blk _ _ h1
      refine ⟨r, o + (f x.1).2, by simp only [resV, if_pos (hpn x hx), h2, Option.map_some], ?_, fun h => by cases h⟩
      cases own with
      | true =>
        obtain ⟨c', h5, h6, h7⟩ := h3
        refine ⟨c', t, (0, 0), h5, fun i v hv => ?_⟩
        have h8 := hc i v hv
        obtain ⟨hlt, _⟩ := List.getElem?_eq_some_iff.1 h8
        have hlt' : (f x.1).2 + i < c'.toList.length := by rw [← h7.1]; exact hlt
        have h9 := h7.2 _ _ (c'.toList[(f x.1).2 + i]) h8 (List.getElem?_eq_getElem hlt')
        refine ⟨c'.toList[(f x.1).2 + i], ?_, Rel.ren h9 v rfl (bdL_get (hpl x hx) hv)⟩
        rw [h6, Nat.zero_add]
        simp
      | false =>
        obtain ⟨c', t', fz, h5, h6⟩ := h3
        refine ⟨c', t', fz, h5, fun i v hv => ?_⟩
        obtain ⟨v', h7, h8⟩ := h6 _ _ (hc i v hv)
        exact ⟨v', by rw [Nat.add_assoc]; exact h7, Rel.ren h8 v rfl (bdL_get (hpl x hx) hv)⟩
    · obtain ⟨x, hx, rfl, rfl⟩ := roB_get hm
      cases hown
  have hrr := enter_rr (M := fun r => w.heap.size ≤ r) (N := N) (n := n) (h := updH (fun _ => none) (roB hp)) (w := w) hrel' hN hH' (fun m hm => if_neg (by omega))
  refine wp_mono (h _ _ _ _ _ hrr) ?_
  rintro e a' w' ⟨ρ', s', h1, h2, h3, h4⟩
  obtain ⟨v', h5, h6⟩ := vresult_sound h2 h4
  rw [h6.eq_of_plain hv] at h5
  rcases h3 with rfl | rfl
  · exact ⟨h2.defers, v, h5, rfl, kept_below h2.kept⟩
  · exact ⟨h2.defers, v, h5, rfl, kept_below h2.kept⟩

theorem sp_rc {o : Oper} {m : Nat} {ev : Operand → Value} {h : Nat → Option Blk} {fo : Operand} {args : Array Operand} {ats : Array TypeId} {g : FuncId} {cap : Array Value} {v : Value} {vs : List Value} {hp : List (Nat × List Value)} (f : Nat → Nat × Nat)
    (ho : o.op = .call { callee := .value fo, args := args, argTypes := ats }) (hf : ev fo = .func (.func g) #[] cap) (hro : RC g vs hp v) (hvs : args.toList.map ev ++ cap.toList = renL f vs) (hR : HasC h f hp) : SpOk o m ev h (hp.map fun x => (f x.1).1) (fun v' u => v' = v ∧ u = []) := by
  intro M ρ h' w a hh hev hH _
  have h0 := hev fo (by rw [ho]; simp [Op.operands, Call.operands])
  rw [hf] at h0
  obtain ⟨a0, cap', h1, ha0, hcap⟩ := h0.func_inv
  have ha1 : a0 = #[] := by
    have := ha0.1
    simp at this
    exact Array.eq_empty_of_size_eq_zero this.symm
  subst ha1
  have h2 : RelL ρ (renL f vs) (args.toList.map a.eval ++ cap'.toList) := by
    have hr := relA_map (ρ := ρ) (ev := ev) (a := a) (xs := args) (fun x hx => hev x (by rw [ho]; simp [Op.operands, Call.operands, hx]))
    have hl : RelL ρ (args.toList.map ev) (args.toList.map a.eval) := ⟨by simp, fun i v v' h1 h2 => hr.2 i v v' (by simpa using h1) (by simpa using h2)⟩
    have hc2 := hcap.toL
    rw [← hvs]
    refine ⟨by simp [hc2.1, hl.1], fun i v v' h3 h4 => ?_⟩
    rcases Nat.lt_or_ge i (args.toList.map ev).length with hlt | hge
    · rw [List.getElem?_append_left hlt] at h3
      rw [List.getElem?_append_left (by rw [← hl.1]; exact hlt)] at h4
      exact hl.2 i v v' h3 h4
    · rw [List.getElem?_append_right hge] at h3
      rw [List.getElem?_append_right (by rw [← hl.1]; exact hge), ← hl.1] at h4
      exact hc2.2 _ v v' h3 h4
  unfold Oper.wp
  have hrun : (execOp a.eval o).run P w = .ok (.enter g (args.map a.eval ++ cap')) w := by
    simp only [execOp, ho, resolve, h1, Sem.run_bind, Deferred.ofValue, Sem.run_pure, Result.andThen_ok, invoke, Array.empty_append, callFunc_run hro.good]
  rw [hrun]
  have hR' : HasC h' f hp := by
    intro x hx
    obtain ⟨c, t, own, h3, h4⟩ := hR x hx
    exact ⟨c, t, own, by rw [hh _ (List.mem_map.2 ⟨x, hx, rfl⟩)]; exact h3, h4⟩
  have hc := hro.calls M ρ h' w f (args.toList.map a.eval ++ cap'.toList) hR' hH h2
  have harr : (args.toList.map a.eval ++ cap'.toList).toArray = args.map a.eval ++ cap' := by
    rw [← Array.toList_map, ← Array.toList_append]
  rw [harr] at hc
  refine hc.mono ?_
  rintro e w' ⟨rfl, hb⟩
  refine ⟨v, v, [], ρ, ⟨rfl, rfl⟩, rfl, Ext.refl _, .plain hro.res, ⟨fun k b hk => ?_, hH.inj, fun r hr => hH.new r (Nat.le_trans hb.size hr)⟩, ⟨hb.os, hb.tape, hb.output, hb.size, fun r hr => hb.block r ?_⟩, fun x hx => (by cases hx), fun k hk _ => hk⟩
  · obtain ⟨r, o', h3, h4, h5⟩ := hH.blk k b hk
    exact ⟨r, o', h3, by rw [hb.block r (hH.lt hk h3)]; exact h4, h5⟩
  · rcases Nat.lt_or_ge r w.heap.size with hlt | hge
    · exact hlt
    · exact absurd (hH.new r hge) hr

theorem run_rc {ops : Array Oper} {base i : Nat} {o : Oper} {rest : List Oper} {t : Nat → Value} {h : Nat → Option Blk} {n : Nat} {K : St → Prop} {fo : Operand} {args : Array Operand} {ats : Array TypeId} {g : FuncId} {cap : Array Value} {v : Value} {vs : List Value} {hp : List (Nat × List Value)} (f : Nat → Nat × Nat)
    (hro : RC g vs hp v) (hR : HasC h f hp) (ho : o.op = .call { callee := .value fo, args := args, argTypes := ats }) (hf : evT t fo = .func (.func g) #[] cap) (ha : args.toList.map (evT t) ++ cap.toList = renL f vs) (hw : wantV ops o t = some true)
    (k : vgo ops base (i + 1) rest ⟨putT t o.dst v, h, n⟩ K) : vgo ops base i (o :: rest) ⟨t, h, n⟩ K := by
  rw [evT_eq t h n] at ha hf
  have hv : vex (⟨t, h, n⟩ : St).ev h o.op = none := by rw [ho]; rfl
  have hk : kd o.op = .sp := by rw [ho]; rfl
  unfold vgo
  simp only [hw, hv]
  refine ⟨hk, _, _, sp_rc f ho hf hro ha hR, ⟨v, [], rfl, rfl⟩, ?_⟩
  rintro v' u ⟨rfl, rfl⟩
  rw [app_putT]
  exact k
theorem runD_rc {ops : Array Oper} {U : List (Nat × Nat)} {base i : Nat} {o : Oper} {rest : List Oper} {log : Log} {t : Nat → Value} {h : Nat → Option Blk} {n : Nat} {K : St → Prop} {fo : Operand} {args : Array Operand} {ats : Array TypeId} {g : FuncId} {cap : Array Value} {v : Value} {vs : List Value} {hp : List (Nat × List Value)} (f : Nat → Nat × Nat)
    (hro : RC g vs hp v) (hR : HasC h f hp) (ho : o.op = .call { callee := .value fo, args := args, argTypes := ats }) (hf : evT t fo = .func (.func g) #[] cap) (ha : args.toList.map (evT t) ++ cap.toList = renL f vs) (hw : wantV ops o t = some true) (hc : chkB U log i (hp.map fun x => (f x.1).1) [] = true)
    (k : W ops U base (i + 1) rest ((i, hp.map fun x => (f x.1).1, []) :: log) (putT t o.dst v) h n K) : W ops U base i (o :: rest) log t h n K := by
  intro log' hl
  rw [evT_eq t h n] at ha hf
  have hv : vex (⟨t, h, n⟩ : St).ev h o.op = none := by rw [ho]; rfl
  have hk : kd o.op = .sp := by rw [ho]; rfl
  unfold vgoD
  simp only [hw, hv]
  refine ⟨hk, _, _, sp_rc f ho hf hro ha hR, ⟨v, [], rfl, rfl⟩, ?_⟩
  rintro v' u ⟨rfl, rfl⟩
  refine ⟨hl.chk (chk_of_B hc), ?_⟩
  rw [app_putT]
  exact k _ (hl.cons _)
end Go.Proofs.Ytdfkcijholopoaa.Vm
