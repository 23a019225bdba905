/- 'vex' is true of the program's machine. -/
import Derived.Test.YtdfkcijholopoaaVm5
namespace Go.Proofs.Ytdfkcijholopoaa.Vm
open Go
set_option linter.unusedSimpArgs false

section ops
variable {M : Nat → Prop} {ρ : Nat → Option (Nat × Nat)} {h : Nat → Option Blk} {w : World} {a : Act} {ev : Operand → Value}

theorem pairs_rel {ps : Array (Nat × Operand)} (hp : ∀ x ∈ ps.toList.map (·.2), Rel ρ (ev x) (a.eval x)) :
    ∀ (i : Nat) (p p' : Nat × Value), (ps.toList.map fun (i, x) => (i, ev x))[i]? = some p → (ps.map fun (i, x) => (i, a.eval x)).toList[i]? = some p' → p.1 = p'.1 ∧ Rel ρ p.2 p'.2 := by
  intro i p p' h1 h2
  simp only [Array.toList_map, List.getElem?_map] at h1 h2
  cases hx : ps.toList[i]? with
  | none => rw [hx] at h1; cases h1
  | some x =>
    rw [hx] at h1 h2
    cases h1; cases h2
    exact ⟨rfl, hp x.2 (List.mem_map.2 ⟨x, List.mem_of_getElem? hx, rfl⟩)⟩

theorem fill_sound {ps : Array (Nat × Operand)} (hp : ∀ x ∈ ps.toList.map (·.2), Rel ρ (ev x) (a.eval x)) {place : Nat → Option (Nat × Nat)} {z : List Value} {z' : Array Value} (hz : RelL ρ z z'.toList) {c : List Value}
    (hc : fillL place z (ps.toList.map fun (i, x) => (i, ev x)) = some c) : ∃ c', Instr.fill place z' (ps.map fun (i, x) => (i, a.eval x)).toList = some c' ∧ RelL ρ c c'.toList := by
  obtain ⟨d', h1, h2⟩ := fillL_rel place _ (ps.map fun (i, x) => (i, a.eval x)).toList z z'.toList c (by simp) (pairs_rel hp) hz hc
  exact ⟨d'.toArray, fill_eq place _ _ d' h1, by simpa using h2⟩

theorem ibin_sound {op : BinOp} {k k' : IntKind} {x y : Int} {v : Value} (hv : ibin op k k' x y = some v) (t : TypeId) : (binOp op t (.int k x) (.int k' y)).run P w = .ok v w ∧ plain v = true := by
  cases op <;> simp only [ibin] at hv <;> first | (cases hv; done) | skip
  case shl =>
    split at hv
    · cases hv
    · rename_i hb; cases hv; simp only [binOp, Op.shift, if_neg hb]; exact ⟨rfl, rfl⟩
  case shr =>
    split at hv
    · cases hv
    · rename_i hb; cases hv; simp only [binOp, Op.shift, if_neg hb]; exact ⟨rfl, rfl⟩
  all_goals
    split at hv
    · rename_i hk
      subst hk
      first
      | (cases hv; simp only [binOp, ne_eq, not_true_eq_false, if_false]; exact ⟨rfl, rfl⟩)
      | (split at hv
         · cases hv
         · rename_i hb; cases hv; simp only [binOp, ne_eq, not_true_eq_false, if_false, Op.intDiv, if_neg hb]; exact ⟨rfl, rfl⟩)
    · cases hv

theorem eqGuard_other {op : BinOp} {t : TypeId} {x y : Operand} {u v : Value} (hu : ∀ c, u ≠ .agg c) (hi : u ≠ .nilIface) : (eqGuard op t x y u v).run P w = .ok () w := by
  unfold eqGuard
  cases op <;> simp only [Sem.run_bind, Sem.run_pure, Bool.not_true, Bool.not_false, Bool.false_eq_true, if_true, if_false, Result.andThen_ok] <;> first | rfl | skip
  all_goals (cases u <;> first | rfl | exact absurd rfl (hu _) | exact absurd rfl hi)

theorem vbin_sound {op : BinOp} {t : TypeId} {x y : Operand} {u u' s s' v : Value} (hu : Rel ρ u u') (hs : Rel ρ s s') (hv : vbin op t u s = some v) :
    (do eqGuard op t x y u' s'; binOp op t u' s' : Sem Value).run P w = .ok v w ∧ plain v = true := by
  unfold vbin at hv
  split at hv
  · rw [hu.int_inv, hs.int_inv, Sem.run_bind, eqGuard_other (by intro c h; cases h) (by intro h; cases h)]
    exact ibin_sound hv t
  · rename_i p q
    rw [hu.bool_inv, hs.bool_inv, Sem.run_bind, eqGuard_other (by intro c h; cases h) (by intro h; cases h)]
    split at hv
    · rename_i ht
      subst ht
      split at hv
      · cases hv
        refine ⟨?_, rfl⟩
        simp only [Result.andThen_ok, binOp, Sem.run_bind, Op.equal, Op.maxDepth, eqI4, Sem.run_pure]
      · cases hv
        refine ⟨?_, rfl⟩
        simp only [Result.andThen_ok, binOp, Sem.run_bind, Op.equal, Op.maxDepth, eqI4, Sem.run_pure]
      · cases hv
    · cases hv
  · rename_i c d
    cases hr : aeq t c.toList d.toList with
    | none => rw [hr] at hv; cases hv
    | some r =>
      rw [hr] at hv
      have pc : plain (.agg c) = true ∧ plain (.agg d) = true := by
        have key : ∀ (c d : List Value), aeq t c d = some r → plainL c = true ∧ plainL d = true := by
          intro c d h
          unfold aeq at h
          split at h
          · split at h
            · exact ⟨rfl, rfl⟩
            · cases h
          · split at h
            · exact ⟨rfl, rfl⟩
            · cases h
          · split at h
            · exact ⟨rfl, rfl⟩
            · cases h
          · split at h
            · rename_i l l' h1 h2
              rw [unB_eq h1, unB_eq h2]
              exact ⟨plainL_bools _, plainL_bools _⟩
            · cases h
          · split at h
            · exact ⟨rfl, rfl⟩
            · cases h
          · cases h
        obtain ⟨c⟩ := c
        obtain ⟨d⟩ := d
        exact key c d hr
      rw [hu.eq_of_plain pc.1, hs.eq_of_plain pc.2]
      obtain ⟨h1, h2⟩ := aeq_sound hr w
      rw [Sem.run_bind, run_eqGuard_agg w op t x y c d h2, Result.andThen_ok]
      simp only [Option.bind_some] at hv
      split at hv
      · cases hv
        exact ⟨by rw [run_eql_struct, h1]; rfl, rfl⟩
      · cases hv
        exact ⟨by rw [run_neq_struct, h1]; rfl, rfl⟩
      · cases hv
  · rename_i b l c l' c'
    split at hv
    · rename_i ht
      subst ht
      rw [hs.eq_of_plain rfl]
      have hu' : ∃ b' , u' = .slice b' l c ∧ b'.isNone = b.isNone := by
        cases b with
        | none => exact ⟨none, hu.eq_of_plain rfl, rfl⟩
        | some b =>
          cases hu with
          | plain h => simp [Vm.plain] at h
          | slice h => exact ⟨_, rfl, rfl⟩
      obtain ⟨b', rfl, hb⟩ := hu'
      rw [Sem.run_bind, eqGuard_other (by intro c h; cases h) (by intro h; cases h), Result.andThen_ok]
      have hq : (Op.equal 53 (.slice b' l c) (.slice none l' c')).run P w = .ok b.isNone w := by
        have key : ∀ d, (Op.equalIn (d + 1) 53 (.slice b' l c) (.slice none l' c')).run P w = .ok b'.isNone w := by
          intro d
          simp only [Op.equalIn, Sem.run_bind, run_underlying (show P.underlying 53 = some (.slice 67) by kernel_rfl), Result.andThen_ok]
          cases b' <;> rfl
        rw [← hb]
        exact key 9999
      split at hv
      · cases hv
        refine ⟨?_, rfl⟩
        simp only [binOp, Sem.run_bind, hq, Result.andThen_ok, Sem.run_pure]
      · cases hv
        refine ⟨?_, rfl⟩
        simp only [binOp, Sem.run_bind, hq, Result.andThen_ok, Sem.run_pure]
      · cases hv
    · cases hv
  · cases hv

theorem newVar_run (t : TypeId) (v : Value) (w : World) : (do pure (.pointer (some (← newVar t v))) : Sem Value).run P w = .ok (.pointer (some ⟨w.heap.size, 0, none⟩)) (w.alloc (.cells v.cells t)) := rfl

def OptRel (ρ : Nat → Option (Nat × Nat)) : Option Value → Option Value → Prop
  | none, none => True
  | some v, some v' => Rel ρ v v'
  | _, _ => False
theorem OptRel.map {x : Option Operand} (hx : ∀ y, x = some y → Rel ρ (ev y) (a.eval y)) : OptRel ρ (x.map ev) (x.map a.eval) := by
  cases x with
  | none => trivial
  | some y => exact hx y rfl

def sbound (v : Value) (y : Nat) : Option Nat := match v with | .int _ i => if 0 ≤ i ∧ i ≤ y then some i.toNat else none | _ => none
theorem sbound_sound {v v' : Value} {y : Nat} {c : BoundsCode} {r : Nat} (hr : Rel ρ v v') (hv : sbound v y = some r) : (Instr.sliceBound v' y c).run P w = .ok r w := by
  unfold sbound at hv
  cases v <;> try (cases hv; done)
  rename_i k i
  rw [hr.int_inv]
  simp only at hv
  split at hv
  · rename_i hc
    cases hv
    simp only [Instr.sliceBound, Sem.run_bind, asIntOf, Sem.run_pure, Result.andThen_ok, if_pos hc]
  · cases hv

theorem sbounds_sound {len cap : Nat} {lo hi mx lo' hi' mx' : Option Value} (hlo : OptRel ρ lo lo') (hhi : OptRel ρ hi hi') (hmx : OptRel ρ mx mx')
    {l m n : Nat} (hs : sbounds len cap lo hi mx = some (l, m, n)) : (Instr.sliceBounds true len cap lo' hi' mx').run P w = .ok (l, m, n) w := by
  have hs' : ((match mx with | some v => sbound v cap | none => some cap).bind fun m =>
    (match hi, mx with | some v, some _ => sbound v m | some v, none => sbound v cap | none, none => some len | none, some _ => none).bind fun h =>
    (match lo with | some v => sbound v h | none => some 0).bind fun l => some (l, h, m)) = some (l, m, n) := hs
  clear hs
  simp only [Option.bind_eq_some_iff] at hs'
  obtain ⟨m1, h1, h2, h3, l1, h4, h5⟩ := hs'
  cases h5
  unfold Instr.sliceBounds
  cases mx with
  | none =>
    cases mx' with
    | some _ => exact hmx.elim
    | none =>
      cases h1
      simp only [Sem.run_bind, Sem.run_pure, Result.andThen_ok]
      cases hi with
      | none =>
        cases hi' with
        | some _ => exact hhi.elim
        | none =>
          cases h3
          simp only [Sem.run_bind, Sem.run_pure, Result.andThen_ok]
          cases lo with
          | none =>
            cases lo' with
            | some _ => exact hlo.elim
            | none => cases h4; rfl
          | some v =>
            cases lo' with
            | none => exact hlo.elim
            | some v' =>
              have h4' : sbound v len = some l := h4
              simp only [Sem.run_bind, sbound_sound hlo h4', Result.andThen_ok, Sem.run_pure]
      | some u =>
        cases hi' with
        | none => exact hhi.elim
        | some u' =>
          have h3' : sbound u cap = some m := h3
          simp only [Sem.run_bind, sbound_sound hhi h3', Result.andThen_ok]
          cases lo with
          | none =>
            cases lo' with
            | some _ => exact hlo.elim
            | none => cases h4; rfl
          | some v =>
            cases lo' with
            | none => exact hlo.elim
            | some v' =>
              have h4' : sbound v m = some l := h4
              simp only [Sem.run_bind, sbound_sound hlo h4', Result.andThen_ok, Sem.run_pure]
  | some q =>
    cases mx' with
    | none => exact hmx.elim
    | some q' =>
      have h1' : sbound q cap = some n := h1
      simp only [Sem.run_bind, sbound_sound hmx h1', Result.andThen_ok]
      cases hi with
      | none => cases h3
      | some u =>
        cases hi' with
        | none => exact hhi.elim
        | some u' =>
          have h3' : sbound u n = some m := h3
          simp only [Sem.run_bind, sbound_sound hhi h3', Result.andThen_ok]
          cases lo with
          | none =>
            cases lo' with
            | some _ => exact hlo.elim
            | none => cases h4; rfl
          | some v =>
            cases lo' with
            | none => exact hlo.elim
            | some v' =>
              have h4' : sbound v m = some l := h4
              simp only [Sem.run_bind, sbound_sound hlo h4', Result.andThen_ok, Sem.run_pure]

end ops

end Go.Proofs.Ytdfkcijholopoaa.Vm
