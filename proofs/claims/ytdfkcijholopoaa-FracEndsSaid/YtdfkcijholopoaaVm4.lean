/- 'vex' is true of the program's machine: one operation at a time. -/
import Derived.Test.YtdfkcijholopoaaVm3
import Derived.Laws.Slices
namespace Go.Proofs.Ytdfkcijholopoaa.Vm
open Go

theorem Rel.of_int {ρ : Nat → Option (Nat × Nat)} {k : IntKind} {n : Int} {v : Value} (h : Rel ρ v (.int k n)) : v = .int k n := by
  cases h; rfl

theorem Rel.oneCell {ρ : Nat → Option (Nat × Nat)} {v u : Value} (h : Rel ρ v u) : u.oneCell' = v.oneCell' := by cases h <;> rfl
theorem Rel.cells {ρ : Nat → Option (Nat × Nat)} {v u : Value} (h : Rel ρ v u) : RelA ρ v.cells u.cells := by
  by_cases hv : ∃ c, v = .agg c
  · obtain ⟨c, rfl⟩ := hv
    obtain ⟨c', rfl, hc⟩ := h.agg_inv
    exact hc
  · have hu : ¬ ∃ c, u = .agg c := by
      rintro ⟨c, rfl⟩
      cases h with
      | plain _ => exact hv ⟨_, rfl⟩
      | agg _ _ => exact hv ⟨_, rfl⟩
    have h1 : v.cells = #[v] := by cases v <;> first | rfl | exact absurd ⟨_, rfl⟩ hv
    have h2 : u.cells = #[u] := by cases u <;> first | rfl | exact absurd ⟨_, rfl⟩ hu
    rw [h1, h2]
    refine ⟨rfl, fun i x y hx hy => ?_⟩
    cases i with
    | zero => simp at hx hy; subst hx; subst hy; exact h
    | succ i => simp at hx

theorem RelL.append {ρ : Nat → Option (Nat × Nat)} {a b a' b' : List Value} (h : RelL ρ a a') (k : RelL ρ b b') : RelL ρ (a ++ b) (a' ++ b') := by
  refine ⟨by simp [h.1, k.1], fun i v v' hv hv' => ?_⟩
  rw [List.getElem?_append] at hv hv'
  by_cases hi : i < a.length
  · rw [if_pos hi] at hv; rw [if_pos (h.1 ▸ hi)] at hv'; exact h.2 i v v' hv hv'
  · rw [if_neg hi] at hv; rw [if_neg (h.1 ▸ hi)] at hv'; rw [← h.1] at hv'; exact k.2 _ v v' hv hv'
theorem RelL.take {ρ : Nat → Option (Nat × Nat)} {a a' : List Value} (h : RelL ρ a a') (n : Nat) : RelL ρ (a.take n) (a'.take n) := by
  refine ⟨by simp [h.1], fun i v v' hv hv' => ?_⟩
  rw [List.getElem?_take] at hv hv'
  split at hv
  · rename_i hi; rw [if_pos hi] at hv'; exact h.2 i v v' hv hv'
  · cases hv
theorem RelL.drop {ρ : Nat → Option (Nat × Nat)} {a a' : List Value} (h : RelL ρ a a') (n : Nat) : RelL ρ (a.drop n) (a'.drop n) := by
  refine ⟨by simp [h.1], fun i v v' hv hv' => ?_⟩
  rw [List.getElem?_drop] at hv hv'
  exact h.2 _ v v' hv hv'
theorem RelL.refl_of_plain {ρ : Nat → Option (Nat × Nat)} {c : List Value} (h : plainL c = true) : RelL ρ c c :=
  ⟨rfl, fun i v v' a b => by rw [a] at b; cases b; exact .plain ((plainL_iff c).1 h v (List.mem_of_getElem? a))⟩
theorem RelL.all_oneCell {ρ : Nat → Option (Nat × Nat)} {a a' : List Value} (h : RelL ρ a a') (ha : a.all (·.oneCell') = true) : ∀ v ∈ a', v.oneCell' = true := by
  intro v hv
  obtain ⟨i, hi⟩ := List.getElem?_of_mem hv
  have hlt : i < a.length := by rw [h.1]; exact (List.getElem?_eq_some_iff.1 hi).1
  have h1 := h.2 i a[i] v (by simp [hlt]) hi
  rw [h1.oneCell]
  exact List.all_eq_true.1 ha _ (List.getElem_mem hlt)
theorem RelL.set {ρ : Nat → Option (Nat × Nat)} {a a' : List Value} {v v' : Value} (h : RelL ρ a a') (hv : Rel ρ v v') (k : Nat) : RelL ρ (a.set k v) (a'.set k v') := by
  refine ⟨by simp [h.1], fun i x x' hx hx' => ?_⟩
  rw [List.getElem?_set] at hx hx'
  by_cases hk : k = i
  · subst hk
    rw [if_pos rfl] at hx hx'
    split at hx
    · split at hx'
      · cases hx; cases hx'; exact hv
      · cases hx'
    · cases hx
  · rw [if_neg hk] at hx hx'
    exact h.2 i x x' hx hx'
theorem set_eq_splice (l : List Value) (k : Nat) (v : Value) (h : k < l.length) : l.set k v = l.take k ++ [v] ++ l.drop (k + 1) := by
  rw [List.set_eq_take_append_cons_drop, if_pos h]
  simp

theorem addr_add (r o n : Nat) : (⟨r, o, none⟩ : Addr).add n = ⟨r, o + n, none⟩ := by unfold Addr.add; split <;> simp_all

theorem fillL_rel {ρ : Nat → Option (Nat × Nat)} (place : Nat → Option (Nat × Nat)) : ∀ (ps ps' : List (Nat × Value)) (c c' d : List Value), ps.length = ps'.length →
    (∀ (i : Nat) (p p' : Nat × Value), ps[i]? = some p → ps'[i]? = some p' → p.1 = p'.1 ∧ Rel ρ p.2 p'.2) → RelL ρ c c' → fillL place c ps = some d → ∃ d', fillL place c' ps' = some d' ∧ RelL ρ d d'
  | [], [], c, c', d, _, _, hc, h => by simp [fillL] at h; subst h; exact ⟨c', rfl, hc⟩
  | [], _ :: _, _, _, _, hl, _, _, _ => by simp at hl
  | _ :: _, [], _, _, _, hl, _, _, _ => by simp at hl
  | (i, v) :: ps, (i', v') :: ps', c, c', d, hl, hp, hc, h => by
    obtain ⟨h1, h2⟩ := hp 0 (i, v) (i', v') rfl rfl
    simp only at h1 h2
    subst h1
    have hcl := h2.cells
    unfold fillL at h ⊢
    cases hpl : place i with
    | none => simp [hpl] at h
    | some x =>
      obtain ⟨off, sz⟩ := x
      simp only [hpl] at h ⊢
      split at h
      · rename_i hb
        rw [if_pos ⟨by rw [← hcl.1]; exact hb.1, by rw [← hc.1]; exact hb.2⟩]
        exact fillL_rel place ps ps' _ _ d (by simpa using hl) (fun j p p' a b => hp (j + 1) p p' (by simpa using a) (by simpa using b)) (((hc.take _).append hcl.toL).append (hc.drop _)) h
      · cases h

theorem foldl_set (off : Nat) : ∀ (vs : List Value) (j : Nat) (c : Array Value), off + j + vs.length ≤ c.size →
    (((vs.zipIdx j).foldl (fun cs (x : Value × Nat) => cs.setIfInBounds (off + x.2) x.1) c)).toList = c.toList.take (off + j) ++ vs ++ c.toList.drop (off + j + vs.length)
  | [], j, c, _ => by simp
  | v :: vs, j, c, h => by
    simp only [List.zipIdx_cons, List.foldl_cons]
    rw [foldl_set off vs (j + 1) _ (by simp at h ⊢; omega)]
    have e := list_seg_step c.toList (off + j) v vs (by simp at h ⊢; omega)
    simpa [Array.toList_setIfInBounds, Nat.add_assoc] using e

theorem fill_eq (place : Nat → Option (Nat × Nat)) : ∀ (ps : List (Nat × Value)) (c : Array Value) (d : List Value), fillL place c.toList ps = some d → Instr.fill place c ps = some d.toArray
  | [], c, d, h => by simp [fillL] at h; simp [Instr.fill, ← h]
  | (i, v) :: ps, c, d, h => by
    unfold fillL at h
    unfold Instr.fill
    cases hpl : place i with
    | none => simp [hpl] at h
    | some x =>
      obtain ⟨off, sz⟩ := x
      simp only [hpl] at h ⊢
      split at h
      · rename_i hb
        have hb2 : off + v.cells.size ≤ c.size := by have := hb.2; simp at this; omega
        have hcond : (v.cells.size ≠ sz || decide (off + v.cells.size > c.size)) = false := by
          simp [hb.1]; have := hb.1; omega
        have hcond' : ¬ ((decide (v.cells.size ≠ sz) || decide (off + v.cells.size > c.size)) = true) := by
          simp; have := hb.1; omega
        rw [if_neg hcond']
        apply fill_eq place ps
        have hf := foldl_set off v.cells.toList 0 c (by simp; omega)
        rw [← Array.foldl_toList, Array.toList_zipIdx]
        simp only [Nat.add_zero] at hf
        rw [hf]
        rw [← h, hb.1.symm]
        simp
      · cases h

theorem zrow_rel {ρ : Nat → Option (Nat × Nat)} (n : Nat) (z : List Value) (hz : plainL z = true) (h0 : 0 < z.length) :
    RelL ρ (zrow n z) ((Array.range (n * z.length)).map (z.toArray[· % z.toArray.size]!)).toList := by
  have hl : ∀ n, (zrow n z).length = n * z.length := by
    intro n
    induction n with
    | zero => simp [zrow]
    | succ n ih => simp [zrow, ih, Nat.succ_mul, Nat.add_comm]
  have hg : ∀ n i, i < n * z.length → (zrow n z)[i]? = z[i % z.length]? := by
    intro n
    induction n with
    | zero => intro i hi; simp at hi
    | succ n ih =>
      intro i hi
      simp only [zrow]
      rw [List.getElem?_append]
      by_cases h : i < z.length
      · rw [if_pos h, Nat.mod_eq_of_lt h]
      · rw [if_neg h, ih _ (by rw [Nat.succ_mul] at hi; omega)]
        rw [Nat.mod_eq_sub_mod (Nat.le_of_not_lt h)]
  refine ⟨by simp [hl], fun i v v' hv hv' => ?_⟩
  have hi : i < n * z.length := by rw [← hl]; exact (List.getElem?_eq_some_iff.1 hv).1
  rw [hg n i hi] at hv
  have hm : i % z.length < z.length := Nat.mod_lt _ h0
  have : v' = v := by
    simp at hv'
    obtain ⟨j, hj, hjv⟩ := hv'
    rw [List.getElem?_range hi] at hj
    cases hj
    rw [hv] at hjv
    exact hjv.symm
  subst this
  exact .plain ((plainL_iff z).1 hz _ (List.mem_of_getElem? hv))

/-- What 'vex' says of an operation is what the machine does. -/
def EfOk (M : Nat → Prop) (ρ : Nat → Option (Nat × Nat)) (h : Nat → Option Blk) (o : Oper) (a : Act) (w : World) : Ef → Prop
  | .val v => ∃ v', (execOp a.eval o).run P w = .ok (.value v') w ∧ Rel ρ v v'
  | .rd _ v => ∃ v', (execOp a.eval o).run P w = .ok (.value v') w ∧ Rel ρ v v'
  | .new b p => b.own = true ∧ ∃ v' ob, (execOp a.eval o).run P w = .ok (.value v') (w.alloc ob) ∧
      ∀ ρ' m, Ext ρ ρ' → ρ' m = some (w.heap.size, 0) → Rel ρ' (p m) v' ∧ RObj ρ' b 0 (some ob)
  | .set m b => b.own = true ∧ (∃ b0, h m = some b0 ∧ b0.own = true) ∧ ∃ r c', ρ m = some (r, 0) ∧ M r ∧ r < w.heap.size ∧ (execOp a.eval o).run P w = .ok .skip (w.setRow r c') ∧ RObj ρ b 0 (w.setRow r c').heap[r]?

/-- A struct's fields, as the model has them. -/
noncomputable def fieldsOf' (t : Nat) : Option (List (Nat × Nat)) :=
  (P.underlying t).bind fun d => match d with
    | .struct fs => some (fs.toList.map fun f => (f.offset, P.cellsOf f.type))
    | _ => none
theorem fld24 : fieldsOf' 24 = some [(0, 1), (1, 1)] := by kernel_rfl
theorem fld55 : fieldsOf' 55 = some [(0, 1)] := by kernel_rfl
theorem fld58 : fieldsOf' 58 = some [(0, 2), (2, 1)] := by kernel_rfl
theorem fld67 : fieldsOf' 67 = some [(0, 1), (1, 1), (2, 3)] := by kernel_rfl
theorem fld101 : fieldsOf' 101 = some [(0, 1), (1, 1)] := by kernel_rfl
theorem fld106 : fieldsOf' 106 = some [(0, 1), (1, 5), (6, 1), (7, 1), (8, 1), (9, 1), (10, 1), (11, 1)] := by kernel_rfl
theorem fld147 : fieldsOf' 147 = some [(0, 2), (2, 1)] := by kernel_rfl
theorem flds_pos {t : Nat} {l : List (Nat × Nat)} (h : flds t = some l) : fieldsOf' t = some l ∧ (∀ x ∈ l, 0 < x.2) := by
  unfold flds at h
  split at h <;> cases h
  · exact ⟨fld24, by simp⟩
  · exact ⟨fld55, by simp⟩
  · exact ⟨fld58, by simp⟩
  · exact ⟨fld67, by simp⟩
  · exact ⟨fld101, by simp⟩
  · exact ⟨fld106, by simp⟩
  · exact ⟨fld147, by simp⟩
theorem info_of_pos {P : Program} {t : Nat} (h : 0 < P.cellsOf t) : ∃ i, P.info? t = some i := by
  unfold Program.cellsOf at h
  generalize P.info? t = x at h
  cases x with
  | none => simp at h
  | some i => exact ⟨i, rfl⟩
theorem flds_ok {t : Nat} {l : List (Nat × Nat)} (h : flds t = some l) : ∃ fs : Array Field, P.underlying t = some (.struct fs) ∧ fs.toList.map (fun f => (f.offset, P.cellsOf f.type)) = l ∧ ∀ f ∈ fs.toList, ∀ w, (sizeOf f.type).run P w = .ok (P.cellsOf f.type) w ∧ 0 < P.cellsOf f.type := by
  obtain ⟨h1, h2⟩ := flds_pos h
  unfold fieldsOf' at h1
  cases hu : P.underlying t with
  | none => rw [hu] at h1; cases h1
  | some d =>
    rw [hu, Option.bind_some] at h1
    cases d with
    | struct fs =>
      replace h1 := Option.some.inj h1
      refine ⟨fs, rfl, h1, fun f hf w => ?_⟩
      have hm := List.mem_map_of_mem (f := fun f : Field => (f.offset, P.cellsOf f.type)) hf
      rw [h1] at hm
      have hpos := h2 _ hm
      dsimp only at hpos
      refine ⟨?_, hpos⟩
      obtain ⟨i, hi⟩ := info_of_pos hpos
      have hc : P.cellsOf f.type = i.size := by unfold Program.cellsOf; rw [hi]; rfl
      rw [hc]
      simp only [sizeOf, typeInfo, Sem.run_bind, run_program, Result.andThen_ok, hi, Sem.run_pure]
    | _ => cases h1

theorem arr_ok {t n e : Nat} (h : arr t = some (n, e)) : P.underlying t = some (.array n e) := by
  unfold arr at h
  split at h <;> cases h <;> kernel_rfl
theorem sl_ok {t e : Nat} (h : sl t = some e) : P.underlying t = some (.slice e) := by
  unfold sl at h
  split at h <;> cases h <;> kernel_rfl
theorem ikind_ok {t : Nat} {k : IntKind} (h : ikind t = some k) : P.underlying t = some (.int k) := by
  unfold ikind at h
  split at h <;> cases h <;> kernel_rfl

theorem asIntOf_int (k : IntKind) (n : Int) (w : World) : (asIntOf (.int k n)).run P w = .ok (k, n) w := rfl

section ops
variable {M : Nat → Prop} {ρ : Nat → Option (Nat × Nat)} {h : Nat → Option Blk} {w : World} {a : Act} {ev : Operand → Value}

theorem partAt_sound {t : Nat} {ag : Bool} {z : List Value} (ht : TyOk t ag z) {c : List Value} {k r o : Nat} {e : TypeId} {own : Bool} (hc : RObj ρ (.cells c e own) o w.heap[r]?) {v : Value}
    (hv : partAt ag z.length c k = some v) : ∃ v', (loadVar t ⟨r, o + k, none⟩).run P w = .ok v' w ∧ Rel ρ v v' := by
  have cell : ∀ (j : Nat) (x : Value), c[j]? = some x → ∃ x', w.cell? ⟨r, o + j, none⟩ = some x' ∧ Rel ρ x x' := by
    intro j x hx
    obtain ⟨c', t', fz, v', h1, h2, h3⟩ := hc.cell hx
    exact ⟨v', by rw [cell_of_row w r (o + j) c' t' fz h1]; exact h2, h3⟩
  cases ag with
  | false =>
    obtain ⟨v', h1, h2⟩ := cell k v hv
    refine ⟨v', ?_, h2⟩
    simp only [loadVar, Sem.run_bind, ht.agg w, Result.andThen_ok, Bool.false_eq_true, if_false, run_load, h1]
  | true =>
    -- the cells from k on
    have main : ∀ (d : List Value), d.length = z.length → (∀ (j : Nat) (x : Value), d[j]? = some x → c[k + j]? = some x) → ∃ v', (loadVar t ⟨r, o + k, none⟩).run P w = .ok v' w ∧ Rel ρ (.agg d.toArray) v' := by
      intro d hd hdc
      have hex : ∃ d' : List Value, d'.length = d.length ∧ (∀ (j : Nat) (x' : Value), d'[j]? = some x' → w.cell? ⟨r, o + k + j, none⟩ = some x') ∧ RelL ρ d d' := by
        refine ⟨(List.range d.length).map fun j => (w.cell? ⟨r, o + k + j, none⟩).getD undef, by simp, ?_, by simp, ?_⟩
        · intro j x' hj
          simp at hj
          obtain ⟨j', hj', rfl⟩ := hj
          have hlt : j < d.length := by
            rcases Nat.lt_or_ge j d.length with h' | h'
            · exact h'
            · rw [List.getElem?_eq_none (by simpa using h')] at hj'; cases hj'
          rw [List.getElem?_range hlt] at hj'
          cases hj'
          obtain ⟨x', h1, _⟩ := cell (k + j) d[j] (hdc j _ (by simp [hlt]))
          rw [Nat.add_assoc, h1]; rfl
        · intro j x x' hj hj'
          have hlt : j < d.length := (List.getElem?_eq_some_iff.1 hj).1
          simp only [List.getElem?_map, List.getElem?_range hlt, Option.map_some, Option.some.injEq] at hj'
          obtain ⟨y, h1, h2⟩ := cell (k + j) x (hdc j x hj)
          rw [Nat.add_assoc, h1] at hj'
          simp at hj'
          exact hj' ▸ h2
      obtain ⟨d', hl', hcells, hrel⟩ := hex
      refine ⟨.agg d'.toArray, ?_, Rel.agg' hrel.toA⟩
      have hrun := run_loadCells_list (P := P) w ⟨r, o + k, none⟩ d' (fun j x hx => by rw [addr_add]; exact hcells j x hx)
      simp only [loadVar, Sem.run_bind, ht.agg w, Result.andThen_ok, if_true, ht.size w]
      rw [← hd, ← hl', hrun]
      rfl
    simp only [partAt] at hv
    split at hv
    · rename_i hk
      obtain ⟨rfl, hl⟩ := hk
      cases hv
      exact main c hl (fun j x hx => by simpa using hx)
    · split at hv
      · rename_i hk
        cases hv
        exact main _ (by simp; omega) (fun j x hx => by
          rw [List.getElem?_take] at hx
          split at hx
          · rw [List.getElem?_drop] at hx; exact hx
          · cases hx)
      · cases hv

theorem setAt_sound {t : Nat} {ag : Bool} {z : List Value} (ht : TyOk t ag z) {c c' : List Value} {k r : Nat} {e : TypeId} {v v' : Value} {d : Array Value} (hd : w.heap[r]? = some (.cells d e (0, 0))) (hc : RelL ρ c d.toList)
    (hv : Rel ρ v v') (hs : setAt z.length c k v = some c') : ∃ d' : Array Value, (storeVar t ⟨r, k, none⟩ v').run P w = .ok () (w.setRow r d') ∧ RelL ρ c' d'.toList := by
  have hcs := hv.cells
  -- whatever the value, its cells are spliced in
  have main : v.cells.size = z.length → v.cells.toList.all (·.oneCell') = true → k + z.length ≤ c.length → c' = c.take k ++ v.cells.toList ++ c.drop (k + z.length) →
      ∃ d' : Array Value, (storeVar t ⟨r, k, none⟩ v').run P w = .ok () (w.setRow r d') ∧ RelL ρ c' d'.toList := by
    intro h1 h2 h3 h4
    have hrun := run_storeCells_at P r k e v'.cells.toList 0 d w hd (by have := hc.1; have := hcs.1; simp at *; omega) (hcs.toL.all_oneCell h2)
    refine ⟨(d.toList.take (k + 0) ++ v'.cells.toList ++ d.toList.drop (k + 0 + v'.cells.toList.length)).toArray, ?_, ?_⟩
    · simp only [storeVar, Sem.run_bind, ht.size w, Result.andThen_ok]
      rw [if_neg (by have := hcs.1; omega)]
      exact hrun
    · have e : v'.cells.toList.length = z.length := by have := hcs.1; simp; omega
      rw [h4, e]
      simp only [Nat.add_zero]
      exact ((hc.take k).append hcs.toL).append (hc.drop _)
  by_cases ha : ∃ cs, v = .agg cs
  · obtain ⟨cs, rfl⟩ := ha
    simp only [setAt] at hs
    split at hs
    · rename_i hk
      split at hs
      · rename_i hk2
        obtain ⟨rfl, hl⟩ := hk2
        cases hs
        exact main hk.1 hk.2 (by omega) (by simp [← hl, Value.cells])
      · split at hs
        · rename_i hk2
          cases hs
          exact main hk.1 hk.2 hk2 rfl
        · cases hs
    · cases hs
  · have hcells : v.cells = #[v] := by cases v <;> first | rfl | exact absurd ⟨_, rfl⟩ ha
    have hs' : (if z.length = 1 ∧ v.oneCell' = true ∧ k < c.length then some (c.set k v) else none) = some c' := by
      cases v <;> first | exact hs | exact absurd ⟨_, rfl⟩ ha
    split at hs'
    · rename_i hk
      cases hs'
      refine main (by rw [hcells]; exact hk.1.symm) (by rw [hcells]; simpa using hk.2.1) (by omega) ?_
      rw [hcells, set_eq_splice c k v hk.2.2, hk.1]
    · cases hs'

end ops

end Go.Proofs.Ytdfkcijholopoaa.Vm
