/- 'vex' is true of the program's machine: all kinds of operation. -/
import Derived.Test.YtdfkcijholopoaaVm4
namespace Go.Proofs.Ytdfkcijholopoaa.Vm
open Go

theorem sl_run {t e : Nat} (h : sl t = some e) (w : World) : (underlying t).run P w = .ok (.slice e) w := run_underlying (sl_ok h) w
theorem arr_run {t n e : Nat} (h : arr t = some (n, e)) (w : World) : (underlying t).run P w = .ok (.array n e) w := run_underlying (arr_ok h) w

theorem und22 : P.underlying 22 = some (.int .u64) := by kernel_rfl
theorem und3 : P.underlying 3 = some (.int .i64) := by kernel_rfl
theorem und4 : P.underlying 4 = some .bool := by kernel_rfl

theorem part_one {t : Nat} {z : List Value} (ht : TyOk t false z) {cs : Array Value} {k : Nat} {v : Value} (hv : cs[k]? = some v) (w : World) : (part t cs k).run P w = .ok v w := by
  simp [part, ht.agg w, hv]
theorem part_agg {t : Nat} {z : List Value} (ht : TyOk t true z) (cs : Array Value) (k : Nat) (w : World) : (part t cs k).run P w = .ok (.agg (cs.extract k (k + z.length))) w := by
  simp [part, ht.agg w, ht.size w]

theorem eqI22 (d : Nat) (a b : Int) (w : World) : (Op.equalIn (d + 1) 22 (.int .u64 a) (.int .u64 b)).run P w = .ok (a == b) w := run_equalIn_int w d 22 .u64 .u64 a b und22
theorem eqI3 (d : Nat) (a b : Int) (w : World) : (Op.equalIn (d + 1) 3 (.int .i64 a) (.int .i64 b)).run P w = .ok (a == b) w := run_equalIn_int w d 3 .i64 .i64 a b und3
theorem eqI4 (d : Nat) (a b : Bool) (w : World) : (Op.equalIn (d + 1) 4 (.bool a) (.bool b)).run P w = .ok (a == b) w := run_equalIn_bool' w d 4 a b und4

def fl24 : List Field := [{ name := "Hi", type := 22, offset := 0, embedded := false, tag := "", pkgPath := "", byteOffset := 0 }, { name := "Lo", type := 22, offset := 1, embedded := false, tag := "", pkgPath := "", byteOffset := 8 }]
def fl58 : List Field := [{ name := "N", type := 24, offset := 0, embedded := false, tag := "", pkgPath := "", byteOffset := 0 }, { name := "W", type := 22, offset := 2, embedded := false, tag := "", pkgPath := "", byteOffset := 16 }]
def fl67 : List Field := [{ name := "Id", type := 3, offset := 0, embedded := false, tag := "", pkgPath := "", byteOffset := 0 }, { name := "Each", type := 3, offset := 1, embedded := false, tag := "", pkgPath := "", byteOffset := 8 }, { name := "Time", type := 58, offset := 2, embedded := false, tag := "", pkgPath := "", byteOffset := 16 }]

theorem eqI24 (d : Nat) (a b a' b' : Int) (w : World) : (Op.equalIn (d + 2) 24 (.agg #[.int .u64 a, .int .u64 b]) (.agg #[.int .u64 a', .int .u64 b'])).run P w = .ok (a == a' && b == b') w := by
  rw [run_equalIn_struct w (d + 1) 24 _ _ (by kernel_rfl) (by kernel_rfl), show (P.fieldsOf 24).toList = fl24 by kernel_rfl]
  simp only [fl24, Op.eqFields, ne_eq, String.reduceEq, not_false_eq_true, if_true, Sem.run_bind]
  rw [part_one ty22 (v := .int .u64 a) rfl w, Result.andThen_ok, part_one ty22 (v := .int .u64 a') rfl w, Result.andThen_ok, eqI22, Result.andThen_ok]
  rw [Sem.run_ite]
  cases h : (a == a') with
  | false => simp
  | true =>
    simp only [Bool.not_true, Bool.false_eq_true, if_false, Sem.run_bind]
    rw [part_one ty22 (v := .int .u64 b) rfl w, Result.andThen_ok, part_one ty22 (v := .int .u64 b') rfl w, Result.andThen_ok, eqI22, Result.andThen_ok]
    cases h : (b == b') <;> simp

theorem eqI58 (d : Nat) (a b e a' b' e' : Int) (w : World) : (Op.equalIn (d + 3) 58 (.agg #[.int .u64 a, .int .u64 b, .int .u64 e]) (.agg #[.int .u64 a', .int .u64 b', .int .u64 e'])).run P w = .ok (a == a' && b == b' && e == e') w := by
  rw [run_equalIn_struct w (d + 2) 58 _ _ (by kernel_rfl) (by kernel_rfl), show (P.fieldsOf 58).toList = fl58 by kernel_rfl]
  simp only [fl58, Op.eqFields, ne_eq, String.reduceEq, not_false_eq_true, if_true, Sem.run_bind]
  rw [part_agg ty24, Result.andThen_ok, part_agg ty24, Result.andThen_ok]
  rw [show (Value.agg (#[Value.int .u64 a, .int .u64 b, .int .u64 e].extract 0 (0 + [u0, u0].length))) = .agg #[.int .u64 a, .int .u64 b] from rfl, show (Value.agg (#[Value.int .u64 a', .int .u64 b', .int .u64 e'].extract 0 (0 + [u0, u0].length))) = .agg #[.int .u64 a', .int .u64 b'] from rfl]
  rw [eqI24, Result.andThen_ok, Sem.run_ite]
  cases h : (a == a' && b == b') with
  | false => simp
  | true =>
    simp only [Bool.not_true, Bool.false_eq_true, if_false, Sem.run_bind]
    rw [part_one ty22 (v := .int .u64 e) rfl w, Result.andThen_ok, part_one ty22 (v := .int .u64 e') rfl w, Result.andThen_ok, eqI22, Result.andThen_ok]
    cases h : (e == e') <;> simp

theorem eqI67 (d : Nat) (x y a b e x' y' a' b' e' : Int) (w : World) : (Op.equalIn (d + 4) 67 (.agg #[.int .i64 x, .int .i64 y, .int .u64 a, .int .u64 b, .int .u64 e]) (.agg #[.int .i64 x', .int .i64 y', .int .u64 a', .int .u64 b', .int .u64 e'])).run P w =
    .ok (x == x' && y == y' && (a == a' && b == b' && e == e')) w := by
  rw [run_equalIn_struct w (d + 3) 67 _ _ (by kernel_rfl) (by kernel_rfl), show (P.fieldsOf 67).toList = fl67 by kernel_rfl]
  simp only [fl67, Op.eqFields, ne_eq, String.reduceEq, not_false_eq_true, if_true, Sem.run_bind]
  rw [part_one ty3 (v := .int .i64 x) rfl w, Result.andThen_ok, part_one ty3 (v := .int .i64 x') rfl w, Result.andThen_ok, eqI3, Result.andThen_ok, Sem.run_ite]
  cases h : (x == x') with
  | false => simp
  | true =>
    simp only [Bool.not_true, Bool.false_eq_true, if_false, Sem.run_bind]
    rw [part_one ty3 (v := .int .i64 y) rfl w, Result.andThen_ok, part_one ty3 (v := .int .i64 y') rfl w, Result.andThen_ok, eqI3, Result.andThen_ok, Sem.run_ite]
    cases h : (y == y') with
    | false => simp
    | true =>
      simp only [Bool.not_true, Bool.false_eq_true, if_false, Sem.run_bind]
      rw [part_agg ty58, Result.andThen_ok, part_agg ty58, Result.andThen_ok]
      rw [show (Value.agg (#[Value.int .i64 x, .int .i64 y, .int .u64 a, .int .u64 b, .int .u64 e].extract 2 (2 + [u0, u0, u0].length))) = .agg #[.int .u64 a, .int .u64 b, .int .u64 e] from rfl,
        show (Value.agg (#[Value.int .i64 x', .int .i64 y', .int .u64 a', .int .u64 b', .int .u64 e'].extract 2 (2 + [u0, u0, u0].length))) = .agg #[.int .u64 a', .int .u64 b', .int .u64 e'] from rfl]
      rw [eqI58, Result.andThen_ok]
      cases h : (a == a' && b == b' && e == e') <;> simp

/-- An array's cells, one by one: what the model's loop comes to. -/
theorem eq_arr {t n e : Nat} {z : List Value} (ha : arr t = some (n, e)) (ht : TyOk e false z) (xs ys : Array Value) (f : Nat → Bool) (d : Nat)
    (hx : ∀ i, i < n → ∃ x y, xs[i]? = some x ∧ ys[i]? = some y ∧ ∀ w, (Op.equalIn d e x y).run P w = .ok (f i) w) (w : World) :
    (Op.equalIn (d + 1) t (.agg xs) (.agg ys)).run P w = .ok ((List.range n).all f) w := by
  simp only [Op.equalIn, Sem.run_bind, arr_run ha, Result.andThen_ok, ht.size w]
  rw [Std.Legacy.Range.forIn_eq_forIn_range']
  simp only [Std.Legacy.Range.size, Nat.sub_zero, Nat.add_sub_cancel, Nat.div_one]
  have h1 : z.length = 1 := ht.one rfl
  simp only [h1, Nat.mul_one]
  have key : ∀ (m s : Nat), s + m ≤ n → (do
      let r ← forIn (List.range' s m 1) ((none, ()) : Option Bool × Unit) fun i r => do
        let x ← part e xs i
        let y ← part e ys i
        let b ← Op.equalIn d e x y
        if (!b) = true then pure (ForInStep.done ⟨some false, ()⟩) else do
          pure PUnit.unit
          pure (ForInStep.yield ⟨none, ()⟩)
      match r.fst with
      | some a => pure a
      | none => pure true : Sem Bool).run P w = .ok ((List.range' s m 1).all f) w := by
    intro m
    induction m with
    | zero => intro s _; simp
    | succ m ih =>
      intro s hs
      obtain ⟨x, y, h1, h2, h3⟩ := hx s (by omega)
      simp only [List.range'_succ, List.forIn_cons, bind_assoc, Sem.run_bind, part_one ht h1, part_one ht h2, Result.andThen_ok, h3, List.all_cons]
      cases hf : f s with
      | false => simp
      | true =>
        have := ih (s + 1) (by omega)
        simp only [Sem.run_bind] at this
        simpa using this
  have := key n 0 (by omega)
  rw [List.range_eq_range']
  rw [Sem.run_bind] at this
  refine Eq.trans ?_ this
  congr 1
  · congr 1
    funext a w'
    obtain ⟨x, y⟩ := a
    cases x <;> rfl

theorem all_eq_range {α : Type} [BEq α] [LawfulBEq α] (l l' : List α) (n : Nat) (h : l.length = n) (h' : l'.length = n) : ((List.range n).all fun i => l[i]? == l'[i]?) = (l == l') := by
  rw [Bool.eq_iff_iff, List.all_eq_true, beq_iff_eq]
  constructor
  · intro H
    apply List.ext_getElem?
    intro i
    by_cases hi : i < n
    · simpa using H i (by simpa using hi)
    · rw [List.getElem?_eq_none (by omega), List.getElem?_eq_none (by omega)]
  · rintro rfl i _
    simp

theorem eqI32 (d : Nat) (l l' : List Bool) (h : l.length = 256) (h' : l'.length = 256) (w : World) :
    (Op.equalIn (d + 2) 32 (.agg (l.map Value.bool).toArray) (.agg (l'.map Value.bool).toArray)).run P w = .ok (l == l') w := by
  rw [eq_arr (n := 256) (e := 4) rfl ty4 _ _ (fun i => l[i]? == l'[i]?) (d + 1) (fun i hi => ?_) w, all_eq_range l l' 256 h h']
  have h1 : l[i]? = some (l[i]'(by omega)) := by simp
  have h2 : l'[i]? = some (l'[i]'(by omega)) := by simp
  refine ⟨.bool (l[i]'(by omega)), .bool (l'[i]'(by omega)), by simp [h1], by simp [h2], fun w => ?_⟩
  rw [eqI4, h1, h2]
  rfl

theorem eqI116 (d : Nat) (l l' : List Int) (h : l.length = 7) (h' : l'.length = 7) (w : World) :
    (Op.equalIn (d + 2) 116 (.agg (l.map (Value.int .u64)).toArray) (.agg (l'.map (Value.int .u64)).toArray)).run P w = .ok (l == l') w := by
  rw [eq_arr (n := 7) (e := 22) rfl ty22 _ _ (fun i => l[i]? == l'[i]?) (d + 1) (fun i hi => ?_) w, all_eq_range l l' 7 h h']
  have h1 : l[i]? = some (l[i]'(by omega)) := by simp
  have h2 : l'[i]? = some (l'[i]'(by omega)) := by simp
  refine ⟨.int .u64 (l[i]'(by omega)), .int .u64 (l'[i]'(by omega)), by simp [h1], by simp [h2], fun w => ?_⟩
  rw [eqI22, h1, h2]
  rfl

theorem ege24 : P.eqGuardType P.depth 24 = false := by kernel_rfl
theorem ege58 : P.eqGuardType P.depth 58 = false := by kernel_rfl
theorem ege67 : P.eqGuardType P.depth 67 = false := by kernel_rfl
theorem ege32 : P.eqGuardType P.depth 32 = false := by kernel_rfl
theorem ege116 : P.eqGuardType P.depth 116 = false := by kernel_rfl

/-- Two structs or arrays of one of our types, by '=='. -/
theorem aeq_sound {t : Nat} {c d : Array Value} {r : Bool} (h : aeq t c.toList d.toList = some r) (w : World) :
    (Op.equalIn 10000 t (.agg c) (.agg d)).run P w = .ok r w ∧ P.eqGuardType P.depth t = false := by
  obtain ⟨c⟩ := c
  obtain ⟨d⟩ := d
  unfold aeq at h
  split at h
  · split at h
    · rename_i h1 h2
      simp only at h1 h2
      subst h1; subst h2
      cases h
      exact ⟨eqI24 9998 _ _ _ _ w, ege24⟩
    · cases h
  · split at h
    · rename_i h1 h2
      simp only at h1 h2
      subst h1; subst h2
      cases h
      exact ⟨eqI58 9997 _ _ _ _ _ _ w, ege58⟩
    · cases h
  · split at h
    · rename_i h1 h2
      simp only at h1 h2
      subst h1; subst h2
      cases h
      exact ⟨eqI67 9996 _ _ _ _ _ _ _ _ _ _ w, ege67⟩
    · cases h
  · split at h
    · rename_i l l' h1 h2
      simp only at h1 h2
      rw [unB_eq h1, unB_eq h2]
      split at h
      · rename_i hl
        cases h
        exact ⟨eqI32 9998 l l' hl.1 hl.2 w, ege32⟩
      · cases h
    · cases h
  · split at h
    · rename_i a b e f g i j a' b' e' f' g' i' j' h1 h2
      simp only at h1 h2
      subst h1; subst h2
      cases h
      have hb : ([a, b, e, f, g, i, j] == [a', b', e', f', g', i', j']) = (a == a' && b == b' && e == e' && f == f' && g == g' && i == i' && j == j') := by
        rw [Bool.eq_iff_iff]
        simp only [beq_iff_eq, Bool.and_eq_true, List.cons.injEq, and_true]
        constructor
        · rintro ⟨rfl, rfl, rfl, rfl, rfl, rfl, rfl⟩; simp
        · rintro ⟨⟨⟨⟨⟨⟨rfl, rfl⟩, rfl⟩, rfl⟩, rfl⟩, rfl⟩, rfl⟩; simp
      exact ⟨hb ▸ eqI116 9998 [a, b, e, f, g, i, j] [a', b', e', f', g', i', j'] rfl rfl w, ege116⟩
    · cases h
  · cases h

end Go.Proofs.Ytdfkcijholopoaa.Vm
