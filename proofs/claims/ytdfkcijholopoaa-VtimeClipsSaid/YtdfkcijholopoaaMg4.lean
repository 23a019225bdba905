/- What the proofs stand on, in one text: Vm26, Vm27, Ra, Wa, Wb, Wc, Wd. -/
import Derived.Test.YtdfkcijholopoaaMg3
import Derived.Deep.AppendSrc
import Derived.Lib.AppendZerosOnto
namespace Go.Proofs.Ytdfkcijholopoaa.Vm
open Go Go.RowKit
set_option linter.unusedSimpArgs false

theorem sp_fc {o : Oper} {m : Nat} {ev : Operand → Value} {h : Nat → Option Blk} {fo : Operand} {args : Array Operand} {ats : Array TypeId} {g : FuncId} {cap : Array Value} {vs : List Value} {n : Nat} {hp : List (Nat × Blk)} {Out : Value → List (Nat × Blk) → Prop} (f : Nat → Nat × Nat)
    (ho : o.op = .call { callee := .value fo, args := args, argTypes := ats }) (hf : ev fo = .func (.func g) #[] cap) (hro : FC g vs n hp Out) (hvs : args.toList.map ev ++ cap.toList = renL f vs) (hR : HasF h f hp) :
    SpOk o m ev h (hp.map fun x => (f x.1).1) (fun v' u' => ∃ v u, Out v u ∧ v' = renV (toF f n m) v ∧ u' = renU (toF f n m) u) := by
  intro M ρ h' w a hh hev hH hm
  have h0 := hev fo (by rw [ho]; simp [Op.operands, Call.operands])
  rw [hf] at h0
  obtain ⟨a0, cap', h1, ha0, hcap⟩ := h0.func_inv
  have ha1 : a0 = #[] := by
    have := ha0.1
    simp at this
    exact Array.eq_empty_of_size_eq_zero this.symm
  subst ha1
  have h2 : RelL ρ (renL f vs) (args.toList.map a.eval ++ cap'.toList) := by
    have hr := relA_map (ρ := ρ) (ev := ev) (a := a) (xs := args) (fun x hx => hev x (by rw [ho]; simp [Op.operands, Call.operands, hx]))
    have hl : RelL ρ (args.toList.map ev) (args.toList.map a.eval) := ⟨by simp, fun i v v' h1 h2 => hr.2 i v v' (by simpa using h1) (by simpa using h2)⟩
    have hc2 := hcap.toL
    rw [← hvs]
    exact hl.append hc2
  unfold Oper.wp
  have hrun : (execOp a.eval o).run P w = .ok (.enter g (args.map a.eval ++ cap')) w := by
    simp only [execOp, ho, resolve, h1, Sem.run_bind, Deferred.ofValue, Sem.run_pure, Result.andThen_ok, invoke, Array.empty_append, callFunc_run hro.good]
  rw [hrun]
  have hR' : HasF h' f hp := by
    refine ⟨fun x hx => ?_, hR.2⟩
    obtain ⟨b, h3, h4⟩ := hR.1 x hx
    exact ⟨b, by rw [hh _ (List.mem_map.2 ⟨x, hx, rfl⟩)]; exact h3, h4⟩
  have hc := hro.calls M ρ h' w f m (args.toList.map a.eval ++ cap'.toList) hR' hH hm h2
  have harr : (args.toList.map a.eval ++ cap'.toList).toArray = args.map a.eval ++ cap' := by
    rw [← Array.toList_map, ← Array.toList_append]
  rw [harr] at hc
  refine hc.mono ?_
  rintro e w' ⟨v, v', u, ρ', q1, rfl, q3, q4, q5, q6, q7, q8⟩
  exact ⟨_, v', _, ρ', ⟨v, u, q1, rfl, rfl⟩, rfl, q3, q4, q5, q6, q7, q8⟩

theorem runD_sp {ops : Array Oper} {U : List (Nat × Nat)} {base i : Nat} {o : Oper} {rest : List Oper} {log : Log} {t : Nat → Value} {h : Nat → Option Blk} {n : Nat} {K : St → Prop} {rd : List Nat} {Out : Value → List (Nat × Blk) → Prop} (hs : SpOk o (base + i) (evT t) h rd Out) (hk : kd o.op = .sp) (hv : vex (evT t) h o.op = none) (hw : wantV ops o t = some true)
    (hne : ∃ v u, Out v u) (hc : ∀ v u, Out v u → chkB U log i rd (u.map (·.1)) = true) (k : ∀ v u, Out v u → W ops U base (i + 1) rest ((i, rd, u.map (·.1)) :: log) (putT t o.dst v) (updL h u) (bump n u) K) : W ops U base i (o :: rest) log t h n K := by
  intro log' hl
  rw [evT_eq t h n] at hs hv
  unfold vgoD
  simp only [hw, hv]
  refine ⟨hk, _, _, hs, hne, fun v u hu => ⟨hl.chk (chk_of_B (hc v u hu)), ?_⟩⟩
  rw [app_putT]
  exact k v u hu _ (hl.cons _)

/-- A call of a function that writes. -/
theorem run_fc {ops : Array Oper} {base i : Nat} {o : Oper} {rest : List Oper} {t : Nat → Value} {h : Nat → Option Blk} {n0 : Nat} {K : St → Prop} {fo : Operand} {args : Array Operand} {ats : Array TypeId} {g : FuncId} {cap : Array Value} {vs : List Value} {n : Nat} {hp : List (Nat × Blk)} {Out : Value → List (Nat × Blk) → Prop} (f : Nat → Nat × Nat)
    (hro : FC g vs n hp Out) (hR : HasF h f hp) (ho : o.op = .call { callee := .value fo, args := args, argTypes := ats }) (hf : evT t fo = .func (.func g) #[] cap) (ha : args.toList.map (evT t) ++ cap.toList = renL f vs) (hw : wantV ops o t = some true) (hne : ∃ v u, Out v u)
    (k : ∀ v u, Out v u → vgo ops base (i + 1) rest ⟨putT t o.dst (renV (toF f n (base + i)) v), updL h (renU (toF f n (base + i)) u), bump n0 (renU (toF f n (base + i)) u)⟩ K) : vgo ops base i (o :: rest) ⟨t, h, n0⟩ K := by
  have hs := sp_fc (m := base + i) f ho hf hro ha hR
  refine run_sp hs (by rw [ho]; rfl) (by rw [ho]; rfl) hw ?_ ?_
  · obtain ⟨v, u, hvu⟩ := hne
    exact ⟨_, _, v, u, hvu, rfl, rfl⟩
  · rintro _ _ ⟨v, u, hvu, rfl, rfl⟩
    exact k v u hvu
theorem runD_fc {ops : Array Oper} {U : List (Nat × Nat)} {base i : Nat} {o : Oper} {rest : List Oper} {log : Log} {t : Nat → Value} {h : Nat → Option Blk} {n0 : Nat} {K : St → Prop} {fo : Operand} {args : Array Operand} {ats : Array TypeId} {g : FuncId} {cap : Array Value} {vs : List Value} {n : Nat} {hp : List (Nat × Blk)} {Out : Value → List (Nat × Blk) → Prop} (f : Nat → Nat × Nat)
    (hro : FC g vs n hp Out) (hR : HasF h f hp) (ho : o.op = .call { callee := .value fo, args := args, argTypes := ats }) (hf : evT t fo = .func (.func g) #[] cap) (ha : args.toList.map (evT t) ++ cap.toList = renL f vs) (hw : wantV ops o t = some true) (hne : ∃ v u, Out v u)
    (hc : ∀ v u, Out v u → chkB U log i (hp.map fun x => (f x.1).1) ((renU (toF f n (base + i)) u).map (·.1)) = true)
    (k : ∀ v u, Out v u → W ops U base (i + 1) rest ((i, hp.map fun x => (f x.1).1, (renU (toF f n (base + i)) u).map (·.1)) :: log) (putT t o.dst (renV (toF f n (base + i)) v)) (updL h (renU (toF f n (base + i)) u)) (bump n0 (renU (toF f n (base + i)) u)) K) : W ops U base i (o :: rest) log t h n0 K := by
  have hs := sp_fc (m := base + i) f ho hf hro ha hR
  refine runD_sp hs (by rw [ho]; rfl) (by rw [ho]; rfl) hw ?_ ?_ ?_
  · obtain ⟨v, u, hvu⟩ := hne
    exact ⟨_, _, v, u, hvu, rfl, rfl⟩
  · rintro _ _ ⟨v, u, hvu, rfl, rfl⟩
    exact hc v u hvu
  · rintro _ _ ⟨v, u, hvu, rfl, rfl⟩
    exact k v u hvu

/-! ### What the caller has -/
def SbF (h : Nat → Option Blk) (f : Nat → Nat × Nat) (k : Nat) (b : Blk) : Prop := ∃ b1, h (f k).1 = some b1 ∧ SubB f (f k).2 b b1
def HasFl (h : Nat → Option Blk) (f : Nat → Nat × Nat) : List (Nat × Blk) → Prop
  | [] => True
  | (k, b) :: l => SbF h f k b ∧ HasFl h f l
theorem HasFl.mem {h : Nat → Option Blk} {f : Nat → Nat × Nat} : ∀ {l : List (Nat × Blk)}, HasFl h f l → ∀ x ∈ l, SbF h f x.1 x.2
  | [], _, x, hx => by cases hx
  | y :: l, hl, x, hx => by
    rcases List.mem_cons.1 hx with rfl | hx
    · exact hl.1
    · exact hl.2.mem x hx
def injF (f : Nat → Nat × Nat) (hp : List (Nat × Bool)) : Bool := hp.all fun x => !x.2 || hp.all fun y => decide (x.1 = y.1) || decide ((f x.1).1 ≠ (f y.1).1)
theorem hasF {h : Nat → Option Blk} {f : Nat → Nat × Nat} {hp : List (Nat × Blk)} (h1 : HasFl h f hp) (h2 : injF f (hp.map fun x => (x.1, x.2.own)) = true) : HasF h f hp := by
  refine ⟨fun x hx => h1.mem x hx, fun x hx y hy hne ho => ?_⟩
  have h3 := List.all_eq_true.1 h2 (x.1, x.2.own) (List.mem_map.2 ⟨x, hx, rfl⟩)
  simp only [ho, Bool.not_true, Bool.false_or] at h3
  have h4 := List.all_eq_true.1 h3 (y.1, y.2.own) (List.mem_map.2 ⟨y, hy, rfl⟩)
  simpa [hne] using h4
theorem sf_own {h : Nat → Option Blk} {f : Nat → Nat × Nat} {k : Nat} {c : List Value} {t : TypeId} (e : h (f k).1 = some (.cells (renL f c) t true)) (ho : (f k).2 = 0) : SbF h f k (.cells c t true) := ⟨_, e, ho, rfl, rfl, rfl⟩
theorem sf_ownp {h : Nat → Option Blk} {f : Nat → Nat × Nat} {k : Nat} {c : List Value} {t : TypeId} (hp : plainL c = true) (e : h (f k).1 = some (.cells c t true)) (ho : (f k).2 = 0) : SbF h f k (.cells c t true) := ⟨_, e, ho, rfl, rfl, (renL_plain f hp).symm⟩
theorem sf_win {h : Nat → Option Blk} {f : Nat → Nat × Nat} {k : Nat} {c c1 : List Value} {t t1 : TypeId} {own : Bool} (e : h (f k).1 = some (.cells c1 t1 own)) (hw : ∀ (i : Nat) (v : Value), c[i]? = some v → c1[(f k).2 + i]? = some (renV f v)) : SbF h f k (.cells c t false) := ⟨_, e, hw⟩
theorem sf_winp {h : Nat → Option Blk} {f : Nat → Nat × Nat} {k : Nat} {c c1 : List Value} {t t1 : TypeId} {own : Bool} (hp : plainL c = true) (e : h (f k).1 = some (.cells c1 t1 own)) (hw : ∀ (i : Nat) (v : Value), c[i]? = some v → c1[(f k).2 + i]? = some v) : SbF h f k (.cells c t false) :=
  ⟨_, e, fun i v hv => by rw [renV_plain f v ((plainL_iff c).1 hp v (List.mem_of_getElem? hv))]; exact hw i v hv⟩
theorem get_zero {c : List Value} : ∀ (i : Nat) (v : Value), c[i]? = some v → c[0 + i]? = some v := fun i v h => by rw [Nat.zero_add]; exact h
theorem get_zero_app {a b : List Value} : ∀ (i : Nat) (v : Value), a[i]? = some v → (a ++ b)[0 + i]? = some v := fun i v h => by rw [Nat.zero_add]; exact get_app i v h

end Go.Proofs.Ytdfkcijholopoaa.Vm
namespace Go.Proofs.Ytdfkcijholopoaa.Vm
open Go Go.RowKit
set_option linter.unusedSimpArgs false

/-- An element's type: its zero cells, and that it is small. -/
def ElOk (e : Nat) (z : List Value) : Prop := ∃ (i : TypeInfo) (zv : Value), P.info? e = some i ∧ i.zero = some zv ∧ zv.cells = z.toArray ∧ i.size = z.length ∧ i.bytes ≤ 4096 ∧ plainL z = true ∧ 0 < z.length
theorem elOk_of {e : Nat} {z : List Value} {zv : Value} (h : (P.info? e).map (fun i => (i.zero, i.size, Nat.ble i.bytes 4096)) = some (some zv, z.length, true)) (hz : zv.cells = z.toArray) (hp : plainL z = true) (h0 : 0 < z.length) : ElOk e z := by
  unfold ElOk
  generalize P.info? e = q at h ⊢
  cases q with
  | none => cases h
  | some i =>
    injection h with h
    injection h with h1 h2
    injection h2 with h2 h3
    exact ⟨i, zv, rfl, h1, hz, h2, Nat.le_of_ble_eq_true h3, hp, h0⟩
theorem el67 : ElOk 67 [i0, i0, u0, u0, u0] := elOk_of (zv := .agg #[i0, i0, u0, u0, u0]) (by kernel_rfl) rfl rfl (by decide)
theorem el58 : ElOk 58 [u0, u0, u0] := elOk_of (zv := .agg #[u0, u0, u0]) (by kernel_rfl) rfl rfl (by decide)
theorem el3 : ElOk 3 [i0] := elOk_of (zv := i0) (by kernel_rfl) rfl rfl (by decide)

/-- A slice of n elements of sz cells each, whose cells are l. -/
inductive Seg (h : Nat → Option Blk) (sz : Nat) : Value → Nat → Nat → List Value → List Nat → Prop
  | nil : Seg h sz (.slice none 0 0) 0 0 [] []
  | emp {m k c : Nat} : Seg h sz (.slice (some ⟨m, k, none⟩) 0 c) 0 c [] []
  | wild {m k s : Nat} : Seg h sz (.slice (some ⟨m, k, some s⟩) 0 0) 0 0 [] []
  | cells {m k n c : Nat} {cs : List Value} {t : TypeId} {own : Bool} {l : List Value} : h m = some (.cells cs t own) → l.length = n * sz → (∀ (i : Nat) (v : Value), l[i]? = some v → cs[k + i]? = some v) → Seg h sz (.slice (some ⟨m, k, none⟩) n c) n c l [m]

theorem Seg.local {h h' : Nat → Option Blk} {sz : Nat} {v : Value} {n c : Nat} {l : List Value} {rd : List Nat} (hs : Seg h sz v n c l rd) (hh : ∀ k ∈ rd, h' k = h k) : Seg h' sz v n c l rd := by
  cases hs with
  | nil => exact .nil
  | emp => exact .emp
  | wild => exact .wild
  | cells h1 h2 h3 => exact .cells ((hh _ (by simp)).trans h1) h2 h3

theorem Seg.real {h : Nat → Option Blk} {sz : Nat} {v : Value} {n c : Nat} {l : List Value} {rd : List Nat} (hs : Seg h sz v n c l rd) {M : Nat → Prop} {ρ : Nat → Option (Nat × Nat)} {w : World} (hH : RH M ρ h w) {v' : Value} (hr : Rel ρ v v') :
    ∃ (b : Option Addr) (l' : List Value), v' = .slice b n c ∧ RelL ρ l l' ∧ l'.length = n * sz ∧ ∀ w2 : World, w2.heap = w.heap → (Builtin.firstCells sz n v').run P w2 = .ok l'.toArray w2 := by
  cases hs with
  | nil => exact ⟨none, [], hr.eq_of_plain rfl, ⟨rfl, fun i v v' a => by simp at a⟩, by simp, fun w2 _ => by rw [hr.eq_of_plain rfl]; exact run_firstCells_none w2 _ _ _ _⟩
  | emp =>
    obtain ⟨r, o, h1, rfl⟩ := hr.slice_inv
    exact ⟨_, [], rfl, ⟨rfl, fun i v v' a => by simp at a⟩, by simp, fun w2 _ => run_firstCells_some w2 _ _ _ _ _ [] (by simp) (fun j v h => by simp at h)⟩
  | wild =>
    cases hr with
    | plain h => simp [plain] at h
    | wild => exact ⟨_, [], rfl, ⟨rfl, fun i v v' a => by simp at a⟩, by simp, fun w2 _ => run_firstCells_some w2 _ _ _ _ _ [] (by simp) (fun j v h => by simp at h)⟩
  | @cells m k n c cs t own l h1 h2 h3 =>
    obtain ⟨r, o, q1, rfl⟩ := hr.slice_inv
    obtain ⟨r', o', q2, q3, _⟩ := hH.blk m _ h1
    rw [q1] at q2
    cases q2
    have hex : ∃ d' : List Value, d'.length = l.length ∧ (∀ (j : Nat) (x' : Value), d'[j]? = some x' → w.cell? ⟨r, o + k + j, none⟩ = some x') ∧ RelL ρ l d' := by
      refine ⟨(List.range l.length).map fun j => (w.cell? ⟨r, o + k + j, none⟩).getD undef, by simp, ?_, by simp, ?_⟩
      · intro j x' hj
        simp only [List.getElem?_map] at hj
        cases hj' : (List.range l.length)[j]? with
        | none => rw [hj'] at hj; cases hj
        | some j' =>
          rw [hj'] at hj
          cases hj
          have hlt : j < l.length := by simpa using (List.getElem?_eq_some_iff.1 hj').1
          rw [List.getElem?_range hlt] at hj'
          cases hj'
          obtain ⟨c', t', fz, v', a1, a2, a3⟩ := q3.cell (h3 j l[j] (by simp [hlt]))
          have : w.cell? ⟨r, o + k + j, none⟩ = some v' := by rw [cell_of_row w r _ c' t' fz a1, Nat.add_assoc]; exact a2
          show w.cell? _ = some ((w.cell? _).getD undef)
          rw [this]
          rfl
      · intro j x x' hj hj'
        have hlt : j < l.length := (List.getElem?_eq_some_iff.1 hj).1
        simp only [List.getElem?_map, List.getElem?_range hlt, Option.map_some, Option.some.injEq] at hj'
        obtain ⟨c', t', fz, v', a1, a2, a3⟩ := q3.cell (h3 j x hj)
        have : w.cell? ⟨r, o + k + j, none⟩ = some v' := by rw [cell_of_row w r _ c' t' fz a1, Nat.add_assoc]; exact a2
        rw [this] at hj'
        cases hj'
        exact a3
    obtain ⟨d', e1, e2, e3⟩ := hex
    refine ⟨_, d', rfl, e3, by rw [e1, h2], fun w2 hw => ?_⟩
    refine run_firstCells_some w2 sz _ _ _ _ d' (by rw [e1, h2]) fun j v hv => ?_
    rw [addr_add]
    have := e2 j v hv
    unfold World.cell? at this ⊢
    rw [hw]
    exact this

theorem src_of {h : Nat → Option Blk} {sz : Nat} {v : Value} {n c : Nat} {l : List Value} {rd : List Nat} (hs : Seg h sz v n c l rd) (hone : l.all (·.oneCell') = true) {M : Nat → Prop} {ρ : Nat → Option (Nat × Nat)} {w : World} (hH : RH M ρ h w) {v' : Value} (hr : Rel ρ v v')
    {tx e : TypeId} (hk : P.underlying tx = some (.slice e)) : ∃ l', RelL ρ l l' ∧ Src P sz tx v' n l' w := by
  obtain ⟨b, l', rfl, h1, h2, h3⟩ := hs.real hH hr
  exact ⟨l', h1, .inl ⟨e, hk⟩, fun w' => rfl, h3 w rfl, h3 w.drew rfl, h2, h1.all_oneCell hone⟩

theorem run_append_room_row {P : Program} (w : World) (t tx ty e : TypeId) (i : TypeInfo) (ht : P.underlying t = some (.slice e)) (hi : P.info? e = some i) (b off sLen sCap : Nat) (x : Value) (n : Nat) (news : List Value) (hs : Src P i.size tx x n news w)
    (hroom : sLen + n ≤ sCap) (cur : Array Value) (tt : TypeId) (hg : w.heap[b]? = some (.cells cur tt (0, 0))) (hfit : off + sLen * i.size + news.length ≤ cur.size) :
    (Builtin.append_ #[t, tx] ty #[.slice (some ⟨b, off, none⟩) sLen sCap, x]).run P w = .ok (.slice (some ⟨b, off, none⟩) (sLen + n) sCap) (w.setRow b (cur.toList.take (off + sLen * i.size) ++ news ++ cur.toList.drop (off + sLen * i.size + news.length)).toArray) := by
  have hst := run_storeCells_at P b (off + sLen * i.size) tt news 0 cur w hg (by simpa using hfit) hs.one
  simp only [Nat.add_zero] at hst
  rcases hs.kind with ⟨e', hk⟩ | hk <;> simp [Builtin.append_, run_underlying ht, run_underlying hk, sizeOf, typeInfo, hi, hs.len, hroom, hs.cells, Addr.add_lit, hst]

theorem append_exec {o : Oper} {x y : Operand} {t tx : TypeId} {e : Operand → Value} (ho : o.op = .call { callee := .builtin .append, args := #[x, y], argTypes := #[t, tx] }) {w w' : World} {v : Value}
    (h : (Builtin.append_ #[t, tx] o.type #[e x, e y]).run P w = .ok v w') : (execOp e o).run P w = .ok (.value v) w' := by
  simp only [execOp, ho, resolve, invoke, builtin, Sem.run_bind, Sem.run_pure, Result.andThen_ok, List.map_toArray, List.map_cons, List.map_nil, h]

/-- There is room. -/
theorem sp_append_room {o : Oper} {m : Nat} {ev : Operand → Value} {h : Nat → Option Blk} {x y : Operand} {t tx e : Nat} {z : List Value} {b k sl sc : Nat} {cb : List Value} {te : TypeId} {n c : Nat} {news : List Value} {rd : List Nat}
    (ho : o.op = .call { callee := .builtin .append, args := #[x, y], argTypes := #[t, tx] }) (ht : Vm.sl t = some e) (htx : Vm.sl tx = some e) (he : ElOk e z)
    (hx : ev x = .slice (some ⟨b, k, none⟩) sl sc) (hb : h b = some (.cells cb te true)) (hy : Seg h z.length (ev y) n c news rd) (hone : news.all (·.oneCell') = true) (hroom : sl + n ≤ sc) (hfit : k + sl * z.length + news.length ≤ cb.length) :
    SpOk o m ev h (b :: rd) (fun v u => v = .slice (some ⟨b, k, none⟩) (sl + n) sc ∧ u = [(b, .cells (cb.take (k + sl * z.length) ++ news ++ cb.drop (k + sl * z.length + news.length)) te true)]) := by
  intro M ρ h' w a hh hev hH _
  obtain ⟨i, zv, hi, hz, hzc, hsz, _, _, _⟩ := he
  have hx1 := hev x (by rw [ho]; simp [Op.operands, Call.operands])
  have hy1 := hev y (by rw [ho]; simp [Op.operands, Call.operands])
  rw [hx] at hx1
  obtain ⟨r, of, q1, q2⟩ := hx1.slice_inv
  have hb' : h' b = some (.cells cb te true) := (hh b (by simp)).trans hb
  obtain ⟨r', of', q3, ⟨cur, q4, rfl, q5⟩, q6⟩ := hH.blk b _ hb'
  rw [q1] at q3
  cases q3
  rw [Nat.zero_add] at q2
  obtain ⟨l', e1, e2⟩ := src_of (hy.local (h' := h') fun j hj => hh j (by simp [hj])) hone hH hy1 (sl_ok htx)
  rw [← hsz] at e2
  have hrun := run_append_room_row w t tx o.type e i (sl_ok ht) hi r k sl sc (a.eval y) n l' e2 hroom cur te q4 (by rw [hsz, ← e1.1]; have := q5.1; simp at this; omega)
  rw [← q2] at hrun
  unfold Oper.wp
  rw [append_exec ho hrun]
  refine ⟨_, _, _, ρ, ⟨rfl, rfl⟩, rfl, Ext.refl _, by simpa using Rel.slice (ρ := ρ) (m := b) (k := k) (l := sl + n) (c := sc) q1, ?_, Kept.setRow (q6 rfl) _, fun x hx => (by simp at hx; exact .inr (by rw [hx, q1]; simp)), fun k hk _ => hk⟩
  · exact hH.setRow hb' rfl q1 ⟨_, setRow_heap w r cur _ te (0, 0) q4, rfl, by
      rw [hsz, ← e1.1]
      exact (((q5.take _).append e1).append (q5.drop _))⟩

/-- There is none: a new block. -/
theorem sp_append_grow {o : Oper} {m : Nat} {ev : Operand → Value} {h : Nat → Option Blk} {x y : Operand} {t tx e : Nat} {z : List Value} {sl sc : Nat} {olds : List Value} {rd0 : List Nat} {n c : Nat} {news : List Value} {rd : List Nat}
    (ho : o.op = .call { callee := .builtin .append, args := #[x, y], argTypes := #[t, tx] }) (ht : Vm.sl t = some e) (htx : Vm.sl tx = some e) (he : ElOk e z)
    (hx : Seg h z.length (ev x) sl sc olds rd0) (hy : Seg h z.length (ev y) n c news rd) (hone : news.all (·.oneCell') = true) (hroom : sc < sl + n) (hsm : sl + n ≤ 100000) :
    SpOk o m ev h (rd0 ++ rd) (fun v u => ∃ cap, sl + n ≤ cap ∧ v = .slice (some ⟨m, 0, none⟩) (sl + n) cap ∧ u = [(m, .cells (olds ++ news ++ zrow (cap - (sl + n)) z) e true)]) := by
  intro M ρ h' w a hh hev hH hm
  obtain ⟨i, zv, hi, hz, hzc, hsz, hby, hpl, h0⟩ := he
  have hx1 := hev x (by rw [ho]; simp [Op.operands, Call.operands])
  have hy1 := hev y (by rw [ho]; simp [Op.operands, Call.operands])
  obtain ⟨b, l0, d1, d2, d3, d4⟩ := (hx.local (h' := h') fun j hj => hh j (by simp [hj])).real hH hx1
  obtain ⟨l', e1, e2⟩ := src_of (hy.local (h' := h') fun j hj => hh j (by simp [hj])) hone hH hy1 (sl_ok htx)
  rw [← hsz] at e2 d4
  rw [d1] at d4
  have hbb : (sl + n) * i.bytes ≤ 140737488355328 := by
    have h1 : (sl + n) * i.bytes ≤ 100000 * 4096 := Nat.mul_le_mul hsm hby
    omega
  have hrun := run_append_grow_src (P := P) w t tx o.type e i zv (sl_ok ht) hi hz b sl sc l0 (d4 w.drew rfl) (a.eval y) n l' e2 hroom (by omega) (growslice_fits hroom hbb)
  rw [← d1] at hrun
  unfold Oper.wp
  rw [append_exec ho hrun]
  have hx' := Ext.upd hm (some (w.heap.size, 0))
  refine ⟨_, _, _, _, ⟨grownCap w (sl + n) sc e, grownCap_ge w _ _ _, rfl, rfl⟩, rfl, hx', ?_, ?_, ?_, fun x hx => (by simp at hx; exact .inl (by rw [hx])), fun k hk hne => by rw [upd_ne _ _ (by simpa using hne)]; exact hk⟩
  · have := Rel.slice (ρ := upd ρ m (some (w.heap.size, 0))) (m := m) (k := 0) (l := sl + n) (c := grownCap w (sl + n) sc e) (upd_same _ _ _)
    simpa using this
  · have hHd : RH M ρ h' w.drew := ⟨hH.blk, hH.inj, hH.new⟩
    refine hHd.alloc hm (b := .cells _ e true) ⟨_, rfl, rfl, ?_⟩
    have hz2 := zrow_rel (ρ := upd ρ m (some (w.heap.size, 0))) (grownCap w (sl + n) sc e - (sl + n)) z hpl h0
    have h3 := ((d2.ext hx').append (e1.ext hx')).append hz2
    simp only [Builtin.zeroCells, hzc, Array.toList_append, List.size_toArray] at h3 ⊢
    exact h3
  · have hK : Kept M w w.drew := ⟨rfl, rfl, rfl, Nat.le_refl _, fun _ _ => rfl⟩
    exact hK.trans (Kept.alloc (w := w.drew) hH.new _)

/-- append(s, make([]T, k)...), no room: the builtin is handed the number. -/
theorem sp_append_zeros {o : Oper} {m : Nat} {ev : Operand → Value} {h : Nat → Option Blk} {x y : Operand} {t e : Nat} {z : List Value} {sl sc : Nat} {olds : List Value} {rd0 : List Nat} {k : Nat} {kq : IntKind} {j : Int}
    (ho : o.op = .call { callee := .builtin .append, args := #[x, y], argTypes := #[t, 3] }) (ht : Vm.sl t = some e) (he : ElOk e z)
    (hx : Seg h z.length (ev x) sl sc olds rd0) (hy : ev y = .int kq j) (hj : j = (k : Int)) (hk : 0 < k) (hroom : sc < sl + k) (hsm : sl + k ≤ 100000) :
    SpOk o m ev h rd0 (fun v u => ∃ cap, sl + k ≤ cap ∧ v = .slice (some ⟨m, 0, none⟩) (sl + k) cap ∧ u = [(m, .cells (olds ++ zrow k z ++ zrow (cap - (sl + k)) z) e true)]) := by
  subst hj
  intro M ρ h' w a hh hev hH hm
  obtain ⟨i, zv, hi, hz, hzc, hsz, hby, hpl, h0⟩ := he
  have hx1 := hev x (by rw [ho]; simp [Op.operands, Call.operands])
  have hy1 := hev y (by rw [ho]; simp [Op.operands, Call.operands])
  rw [hy] at hy1
  obtain ⟨b, l0, d1, d2, d3, d4⟩ := (hx.local (h' := h') fun j hj => hh j hj).real hH hx1
  rw [← hsz] at d4
  rw [d1] at d4
  have hbb : (sl + k) * i.bytes ≤ 140737488355328 := by
    have h1 : (sl + k) * i.bytes ≤ 100000 * 4096 := Nat.mul_le_mul hsm hby
    omega
  have hkb : k * i.bytes ≤ 281474976710656 := by
    have h1 : k * i.bytes ≤ 100000 * 4096 := Nat.mul_le_mul (by omega) hby
    omega
  have hrun := Go.Lib.run_append_grow_zeros (P := P) w t 3 o.type e i zv kq _ (sl_ok ht) (ikind_ok (t := 3) rfl) hi hz b sl sc l0 (d4 w.drew rfl) k hk (by omega) hroom (by omega) hkb (growslice_fits hroom hbb)
  rw [← d1, ← hy1.int_inv] at hrun
  unfold Oper.wp
  rw [append_exec ho hrun]
  have hx' := Ext.upd hm (some (w.heap.size, 0))
  refine ⟨_, _, _, _, ⟨grownCap w (sl + k) sc e, grownCap_ge w _ _ _, rfl, rfl⟩, rfl, hx', ?_, ?_, ?_, fun x hx => (by simp at hx; exact .inl (by rw [hx])), fun k hk hne => by rw [upd_ne _ _ (by simpa using hne)]; exact hk⟩
  · have := Rel.slice (ρ := upd ρ m (some (w.heap.size, 0))) (m := m) (k := 0) (l := sl + k) (c := grownCap w (sl + k) sc e) (upd_same _ _ _)
    simpa using this
  · have hHd : RH M ρ h' w.drew := ⟨hH.blk, hH.inj, hH.new⟩
    refine hHd.alloc hm (b := .cells _ e true) ⟨_, rfl, rfl, ?_⟩
    have hz1 := zrow_rel (ρ := upd ρ m (some (w.heap.size, 0))) k z hpl h0
    have hz2 := zrow_rel (ρ := upd ρ m (some (w.heap.size, 0))) (grownCap w (sl + k) sc e - (sl + k)) z hpl h0
    have h3 := ((d2.ext hx').append hz1).append hz2
    simp only [Builtin.zeroCells, hzc, Array.toList_append, List.size_toArray] at h3 ⊢
    exact h3
  · have hK : Kept M w w.drew := ⟨rfl, rfl, rfl, Nat.le_refl _, fun _ _ => rfl⟩
    exact hK.trans (Kept.alloc (w := w.drew) hH.new _)

/-- Nothing is appended: the slice itself. -/
theorem sp_append_none {o : Oper} {m : Nat} {ev : Operand → Value} {h : Nat → Option Blk} {x y : Operand} {t tx e : Nat} {z : List Value} {b k sl sc : Nat} {c : Nat} {rd : List Nat}
    (ho : o.op = .call { callee := .builtin .append, args := #[x, y], argTypes := #[t, tx] }) (ht : Vm.sl t = some e) (htx : Vm.sl tx = some e) (he : ElOk e z)
    (hx : ev x = .slice (some ⟨b, k, none⟩) sl sc) (hle : sl ≤ sc) (hy : Seg h z.length (ev y) 0 c [] rd) :
    SpOk o m ev h rd (fun v u => v = .slice (some ⟨b, k, none⟩) sl sc ∧ u = []) := by
  intro M ρ h' w a hh hev hH _
  obtain ⟨i, zv, hi, hz, hzc, hsz, _, _, _⟩ := he
  have hx1 := hev x (by rw [ho]; simp [Op.operands, Call.operands])
  have hy1 := hev y (by rw [ho]; simp [Op.operands, Call.operands])
  rw [hx] at hx1
  obtain ⟨r, of, q1, q2⟩ := hx1.slice_inv
  obtain ⟨l', e1, e2⟩ := src_of (hy.local (h' := h') fun j hj => hh j hj) rfl hH hy1 (sl_ok htx)
  have hl' : l' = [] := List.eq_nil_of_length_eq_zero (by rw [← e1.1]; rfl)
  subst hl'
  rw [← hsz] at e2
  have hrun : (Builtin.append_ #[t, tx] o.type #[.slice (some ⟨r, of + k, none⟩) sl sc, a.eval y]).run P w = .ok (.slice (some ⟨r, of + k, none⟩) sl sc) w := by
    rcases e2.kind with ⟨e', hk⟩ | hk <;> simp [Builtin.append_, run_underlying (sl_ok ht), run_underlying hk, sizeOf, typeInfo, hi, e2.len, hle, e2.cells, storeCells]
  rw [← q2] at hrun
  unfold Oper.wp
  rw [append_exec ho hrun]
  exact ⟨_, _, [], ρ, ⟨rfl, rfl⟩, rfl, Ext.refl _, hx1, hH, Kept.refl _ _, fun x hx => (by cases hx), fun k hk _ => hk⟩

end Go.Proofs.Ytdfkcijholopoaa.Vm
namespace Go.Proofs.Ytdfkcijholopoaa.Vm
open Go Go.RowKit
set_option linter.unusedSimpArgs false

/-- The cells of a row of elements. -/
def rws {α : Type} (f : α → List Value) : List α → List Value
  | [] => []
  | a :: l => f a ++ rws f l
theorem rws_len {α : Type} {f : α → List Value} {sz : Nat} (hf : ∀ a, (f a).length = sz) (l : List α) : (rws f l).length = l.length * sz := by
  induction l with
  | nil => simp [rws]
  | cons a l ih => simp [rws, hf, ih, Nat.succ_mul, Nat.add_comm]
theorem rws_append {α : Type} (f : α → List Value) (l r : List α) : rws f (l ++ r) = rws f l ++ rws f r := by
  induction l with
  | nil => rfl
  | cons a l ih => simp [rws, ih]
theorem rws_plain {α : Type} {f : α → List Value} (hf : ∀ a, plainL (f a) = true) (l : List α) : plainL (rws f l) = true := by
  induction l with
  | nil => rfl
  | cons a l ih =>
    rw [plainL_iff] at ih ⊢
    intro v hv
    rcases List.mem_append.1 hv with hv | hv
    · exact (plainL_iff _).1 (hf a) v hv
    · exact ih v hv
theorem rws_one {α : Type} {f : α → List Value} (hf : ∀ a, (f a).all (·.oneCell') = true) (l : List α) : (rws f l).all (·.oneCell') = true := by
  induction l with
  | nil => rfl
  | cons a l ih => simp only [rws, List.all_append, hf, ih, Bool.and_self]
theorem rws_split {α : Type} {f : α → List Value} {l : List α} {i : Nat} {a : α} (h : l[i]? = some a) : rws f l = rws f (l.take i) ++ f a ++ rws f (l.drop (i + 1)) := by
  have h1 : l = l.take i ++ a :: l.drop (i + 1) := by
    obtain ⟨hi, rfl⟩ := List.getElem?_eq_some_iff.1 h
    rw [← List.drop_eq_getElem_cons hi, List.take_append_drop]
  conv => lhs; rw [h1]
  rw [rws_append, rws, List.append_assoc]
theorem rws_at {α : Type} {f : α → List Value} {sz : Nat} (hf : ∀ a, (f a).length = sz) {l : List α} {sp : List Value} {i : Nat} {a : α} (h : l[i]? = some a) : (rws f l ++ sp).drop (i * sz) = f a ++ (rws f (l.drop (i + 1)) ++ sp) := by
  have hi := (List.getElem?_eq_some_iff.1 h).1
  rw [rws_split h, List.append_assoc, List.append_assoc]
  have hl : (rws f (l.take i)).length = i * sz := by rw [rws_len hf, List.length_take, Nat.min_eq_left (by omega)]
  rw [← hl, List.drop_left]
theorem rws_get {α : Type} {f : α → List Value} {sz : Nat} (hf : ∀ a, (f a).length = sz) {l : List α} {sp : List Value} {i : Nat} {a : α} (h : l[i]? = some a) {j s : Nat} (hj : j + s ≤ sz) : ((rws f l ++ sp).drop (i * sz + j)).take s = ((f a).drop j).take s ∧ i * sz + j + s ≤ (rws f l ++ sp).length := by
  have h1 := rws_at hf (sp := sp) h
  have h2 : ((rws f l ++ sp).drop (i * sz + j)) = (f a ++ (rws f (l.drop (i + 1)) ++ sp)).drop j := by rw [← h1, List.drop_drop]
  have hi := (List.getElem?_eq_some_iff.1 h).1
  refine ⟨?_, ?_⟩
  · rw [h2, List.drop_append_of_le_length (by rw [hf]; omega), List.take_append_of_le_length (by rw [List.length_drop, hf]; omega)]
  · rw [List.length_append, rws_len hf]
    have : (i + 1) * sz ≤ l.length * sz := Nat.mul_le_mul_right _ hi
    rw [Nat.succ_mul] at this
    omega

section
variable {ev : Operand → Value} {h : Nat → Option Blk} {α : Type} {f : α → List Value} {sz : Nat}
/-- A part of an element: a struct. -/
theorem vex_ldr (hf : ∀ a, (f a).length = sz) {t : Nat} {x : Operand} {m k j i : Nat} {l : List α} {sp cs : List Value} {tt : Nat} {own : Bool} {z : List Value} {a : α} {d : List Value} (hx : ev x = .pointer (some ⟨m, k, none⟩)) (hk : k = i * sz + j) (hh : h m = some (.cells cs tt own)) (hcs : cs = rws f l ++ sp) (ht : ty t = some (true, z)) (ha : l[i]? = some a) (hj : j + z.length ≤ sz)
    (hd : ((f a).drop j).take z.length = d) : vex ev h (.load t x) = some (.rd m (.agg d.toArray)) := by
  subst hcs
  obtain ⟨h1, h2⟩ := rws_get hf (sp := sp) ha hj
  rw [vex_ldn hx hk hh ht h2, h1, hd]
/-- One cell of it. -/
theorem vex_ldc (hf : ∀ a, (f a).length = sz) {t : Nat} {x : Operand} {m k j i : Nat} {l : List α} {sp cs : List Value} {tt : Nat} {own : Bool} {z : List Value} {a : α} {v : Value} (hx : ev x = .pointer (some ⟨m, k, none⟩)) (hk : k = i * sz + j) (hh : h m = some (.cells cs tt own)) (hcs : cs = rws f l ++ sp) (ht : ty t = some (false, z)) (ha : l[i]? = some a) (hj : j + 1 ≤ sz)
    (hd : (f a)[j]? = some v) : vex ev h (.load t x) = some (.rd m v) := by
  subst hcs
  refine vex_ld1 hx hk hh ht ?_
  have h1 := rws_at hf (sp := sp) ha
  have h2 : ((rws f l ++ sp).drop (i * sz))[j]? = (rws f l ++ sp)[i * sz + j]? := List.getElem?_drop
  rw [← h2, h1, List.getElem?_append_left (by rw [hf]; omega), hd]
end
theorem rws_win {α : Type} (f : α → List Value) (l : List α) : rws f l = rws f l ++ [] := (List.append_nil _).symm
theorem bdH_one {K k : Nat} {c : List Value} {t : TypeId} {own : Bool} (hk : k < K) (hp : plainL c = true) : bdH K [(k, .cells c t own)] = true := by
  simp [bdH, bdB, hk, bdL_plain K hp]
theorem wbool (b : Bool) : Value.bool b = .bool b := rfl

end Go.Proofs.Ytdfkcijholopoaa.Vm
namespace Go.Proofs.Ytdfkcijholopoaa.Vm
open Go Go.RowKit
set_option maxRecDepth 10000
set_option linter.unusedSimpArgs false

theorem p117 (x : Int) : Pure 117 [.int .u64 x] (.bool false) := by
  have h : Pure 117 [.int .u64 x] (.bool (x != x)) := by
    refine pure_of Try.func117 rfl Try.ntmps117 (by kernel_rfl) rfl (by simp) rfl ?_
    repeat (refine vc_seq ?_; refine vc_go (by kernel_rfl) fun K hK => hK _ _ _ ?_)
    exact vc_ret ⟨.inr rfl, rfl⟩
  simpa using h

def cmpI (x y : Int) : Int := if x < y then -1 else if x > y then 1 else 0
theorem p83 (x y : Int) : Pure 83 [.int .u64 x, .int .u64 y] (.int .i64 (cmpI x y)) := by
  refine pure_of Try.func83 rfl Try.ntmps83 (by kernel_rfl) rfl (by simp) rfl ?_
  refine vc_seq ?_
  refine vc_go (by kernel_rfl) fun K hK => hK _ _ _ ?_
  refine vc_seq ?_
  refine vc_reg (by kernel_rfl) fun K hK => ?_
  refine run_n (z := false) 1 (fun K' hK' => hK' _ _ _ ?_) (by decide)
  refine run_call (p117 _) rfl rfl rfl rfl ?_
  refine run_end (z := false) fun K' hK' => hK' _ _ _ (hK _ _ _ ?_)
  refine vc_seq ?_
  refine vc_reg (by kernel_rfl) fun K hK => ?_
  refine run_n (z := false) 1 (fun K' hK' => hK' _ _ _ ?_) (by decide)
  refine run_call (p117 _) rfl rfl rfl rfl ?_
  refine run_end (z := false) fun K' hK' => hK' _ _ _ (hK _ _ _ ?_)
  refine vc_seq ?_
  refine vc_seq ?_
  refine vc_go (by kernel_rfl) fun K hK => hK _ _ _ ?_
  refine vc_cond (t := false) rfl (fun h => by cases h) (fun _ => ?_)
  refine vc_skip ?_
  refine vc_seq ?_
  refine vc_seq ?_
  refine vc_go (by kernel_rfl) fun K hK => hK _ _ _ ?_
  refine vc_cond (t := false) rfl (fun h => by cases h) (fun _ => ?_)
  refine vc_skip ?_
  refine vc_seq ?_
  refine vc_seq ?_
  refine vc_go (by kernel_rfl) fun K hK => hK _ _ _ ?_
  refine vc_cond (t := decide (x < y)) rfl (fun h => ?_) (fun h => ?_)
  · refine vc_seq ?_
    refine vc_go (by kernel_rfl) fun K hK => hK _ _ _ ?_
    refine vc_ret ⟨.inr rfl, ?_⟩
    rw [show cmpI x y = -1 from if_pos (of_decide_eq_true h)]
    rfl
  · refine vc_skip ?_
    refine vc_seq ?_
    refine vc_seq ?_
    refine vc_go (by kernel_rfl) fun K hK => hK _ _ _ ?_
    refine vc_cond (t := decide (x > y)) rfl (fun h' => ?_) (fun h' => ?_)
    · refine vc_seq ?_
      refine vc_go (by kernel_rfl) fun K hK => hK _ _ _ ?_
      refine vc_ret ⟨.inr rfl, ?_⟩
      rw [show cmpI x y = 1 from (if_neg (of_decide_eq_false h)).trans (if_pos (of_decide_eq_true h'))]
      rfl
    · refine vc_skip ?_
      refine vc_seq ?_
      refine vc_go (by kernel_rfl) fun K hK => hK _ _ _ ?_
      refine vc_ret ⟨.inr rfl, ?_⟩
      rw [show cmpI x y = 0 from (if_neg (of_decide_eq_false h)).trans (if_neg (of_decide_eq_false h'))]
      rfl

def orI (x y : Int) : Int := if x = 0 then y else x
theorem p82 (x y : Int) : RO 82 [.slice (some ⟨0, 0, none⟩) 2 2] [(0, [.int .i64 x, .int .i64 y])] (.int .i64 (orI x y)) := by
  refine ro_of _ 1 Try.func82 rfl Try.ntmps82 (by kernel_rfl) (by simp) rfl rfl (by simp) (by simp [plainL, plain]) ?_
  refine vc_seq ?_
  refine vc_go (by kernel_rfl) fun K hK => hK _ _ _ ?_
  clear hK K
  refine vc_seq ?_
  refine vc_go (by kernel_rfl) fun K hK => hK _ _ _ ?_
  clear hK K
  refine vc_seq ?_
  refine vc_seq ?_
  refine vc_go (by kernel_rfl) fun K hK => hK _ _ _ ?_
  clear hK K
  refine vc_block ?_
  refine vc_rounds 3 ?_
  refine vc_seq ?_
  refine vc_go (by kernel_rfl) fun K hK => hK _ _ _ ?_
  clear hK K
  refine vc_seq ?_
  refine vc_cond (t := true) rfl (fun _ => ?_) (fun h => by cases h)
  refine vc_skip ?_
  refine vc_seq ?_
  refine vc_block ?_
  refine vc_seq ?_
  refine vc_go (by kernel_rfl) fun K hK => hK _ _ _ ?_
  clear hK K
  refine vc_seq ?_
  refine vc_go (by kernel_rfl) fun K hK => hK _ _ _ ?_
  clear hK K
  refine vc_cond rfl (fun c1 => ?_) (fun c1 => ?_)
  · -- cond 1 t14 true
    refine vc_seq ?_
    refine vc_go (by kernel_rfl) fun K hK => hK _ _ _ ?_
    clear hK K
    refine vc_ret ⟨.inr rfl, ?_⟩
    have c1' : x ≠ 0 := by simpa using c1
    rw [show orI x y = x from if_neg c1']
    rfl
  · -- cond 1 t14 false
    refine vc_skip ?_
    refine vc_go (by kernel_rfl) fun K hK => hK _ _ _ ?_
    clear hK K
    refine vc_seq ?_
    refine vc_go (by kernel_rfl) fun K hK => hK _ _ _ ?_
    clear hK K
    refine vc_seq ?_
    refine vc_cond (t := true) rfl (fun _ => ?_) (fun h => by cases h)
    refine vc_skip ?_
    refine vc_seq ?_
    refine vc_block ?_
    refine vc_seq ?_
    refine vc_go (by kernel_rfl) fun K hK => hK _ _ _ ?_
    clear hK K
    refine vc_seq ?_
    refine vc_go (by kernel_rfl) fun K hK => hK _ _ _ ?_
    clear hK K
    refine vc_cond rfl (fun c3 => ?_) (fun c3 => ?_)
    · -- cond 3 t14 true
      refine vc_seq ?_
      refine vc_go (by kernel_rfl) fun K hK => hK _ _ _ ?_
      clear hK K
      refine vc_ret ⟨.inr rfl, ?_⟩
      have c1' : x = 0 := by simpa using c1
      rw [show orI x y = y from if_pos c1']
      rfl
    · -- cond 3 t14 false
      refine vc_skip ?_
      refine vc_go (by kernel_rfl) fun K hK => hK _ _ _ ?_
      clear hK K
      refine vc_seq ?_
      refine vc_go (by kernel_rfl) fun K hK => hK _ _ _ ?_
      clear hK K
      refine vc_seq ?_
      refine vc_cond (t := false) rfl (fun h => by cases h) (fun _ => ?_)
      refine vc_exit ?_
      refine vc_seq ?_
      refine vc_go (by kernel_rfl) fun K hK => hK _ _ _ ?_
      clear hK K
      refine vc_ret ⟨.inr rfl, ?_⟩
      have c1' : x = 0 := by simpa using c1
      have c3' : y = 0 := by simpa using c3
      rw [show orI x y = y from if_pos c1', c3']
      rfl

def cmpW (a b : Nat) : Int := if a < b then -1 else if a = b then 0 else 1
theorem p29r (x y x' y' : Int) : Pure 29 [.agg #[.int .u64 x, .int .u64 y], .agg #[.int .u64 x', .int .u64 y']] (.int .i64 (orI (cmpI x x') (cmpI y y'))) := by
  refine pure_of Try.func29 rfl Try.ntmps29 (by kernel_rfl) rfl (by simp) rfl ?_
  refine vc_seq ?_
  refine vc_go (by kernel_rfl) fun K hK => hK _ _ _ ?_
  clear hK K
  refine vc_seq ?_
  refine vc_regD [(4, 6), (4, 8)] (by kernel_rfl) (by kernel_rfl) fun K hK => ?_
  refine runD_n (z := false) 4 (fun K' hK' => hK' _ _ _ _ ?_) (by decide)
  clear hK' K'
  refine runD_call (p83 _ _) rfl rfl rfl rfl ?_
  refine runD_n (z := false) 4 (fun K' hK' => hK' _ _ _ _ ?_) (by decide)
  clear hK' K'
  refine runD_call (p83 _ _) rfl rfl rfl rfl ?_
  refine runD_n (z := false) 1 (fun K' hK' => hK' _ _ _ _ ?_) (by decide)
  clear hK' K'
  refine runD_ro (fun _ => (12, 0)) (p82 (cmpI x x') (cmpI y y')) ?_ rfl rfl rfl rfl rfl ?_
  · intro x hx
    simp only [List.mem_singleton] at hx
    subst hx
    exact ⟨_, _, _, rfl, fun i v hv => by simpa using hv⟩
  refine runD_end (z := false) fun K' hK' => hK' _ _ _ _ (hK _ _ _ ?_)
  clear hK' K' hK K
  exact vc_ret ⟨.inr rfl, rfl⟩

theorem cmp_wd (a b : Nat) : orI (cmpI ((a / 2 ^ 64 : Nat) : Int) ((b / 2 ^ 64 : Nat) : Int)) (cmpI ((a % 2 ^ 64 : Nat) : Int) ((b % 2 ^ 64 : Nat) : Int)) = cmpW a b := by
  unfold orI cmpI cmpW
  repeat' split
  all_goals omega
theorem p29 (a b : Nat) : Pure 29 [wd a, wd b] (.int .i64 (cmpW a b)) := by
  have := p29r ((a / 2 ^ 64 : Nat) : Int) ((a % 2 ^ 64 : Nat) : Int) ((b / 2 ^ 64 : Nat) : Int) ((b % 2 ^ 64 : Nat) : Int)
  rw [cmp_wd] at this
  exact this
theorem cmpW_lt {a b : Nat} : cmpW a b < 0 ↔ a < b := by unfold cmpW; repeat' split <;> omega
theorem cmpW_eq {a b : Nat} : cmpW a b = 0 ↔ a = b := by unfold cmpW; repeat' split <;> omega
theorem cmpW_gt {a b : Nat} : 0 < cmpW a b ↔ b < a := by unfold cmpW; repeat' split <;> omega
theorem cmpW_neg (a b : Nat) : cmpW a b = - cmpW b a := by unfold cmpW; repeat' split <;> omega
theorem p34 (x : Int) : Pure 34 [.int .u64 x] (.agg #[.int .u64 0, .int .u64 x]) := by
  refine pure_of Try.func34 rfl Try.ntmps34 (by kernel_rfl) rfl (by simp) rfl ?_
  refine vc_seq ?_
  refine vc_go (by kernel_rfl) fun K hK => hK _ _ _ ?_
  clear hK K
  refine vc_seq ?_
  refine vc_go (by kernel_rfl) fun K hK => hK _ _ _ ?_
  clear hK K
  exact vc_ret ⟨.inr rfl, rfl⟩

def resW (v : Nat) (e : Int) : Value := .tuple #[wd v, .int .i64 e]
theorem wd_of {x y : Int} {v : Nat} (hx : x = ((v / 2 ^ 64 : Nat) : Int)) (hy : y = ((v % 2 ^ 64 : Nat) : Int)) : (Value.agg #[.int .u64 x, .int .u64 y]) = wd v := by subst hx hy; rfl
theorem fin_we {x y e : Int} {V : Value} (v : Nat) (hx : x = ((v / 2 ^ 64 : Nat) : Int)) (hy : y = ((v % 2 ^ 64 : Nat) : Int)) (hV : V = resW v e) : some (Value.tuple #[.agg #[.int .u64 x, .int .u64 y], .int .i64 e]) = some V := by subst hx hy hV; rfl
theorem wrap64 (n : Int) : IntKind.u64.wrap n = n % 2 ^ 64 := by
  simp [IntKind.wrap, IntKind.bits, IntKind.signed]


theorem cmp_neg {x x' y y' : Int} : orI (cmpI x x') (cmpI y y') < 0 ↔ x < x' ∨ (x = x' ∧ y < y') := by
  unfold orI cmpI
  repeat' split
  all_goals omega
theorem p30 (a b : Nat) (ha : a < 2 ^ 128) (hb : b < 2 ^ 128) : Pure 30 [wd a, wd b] (if a + b < 2 ^ 128 then resW (a + b) 0 else resW 0 131) := by
  refine pure_of Try.func30 rfl Try.ntmps30 (by kernel_rfl) rfl (by simp) (by split <;> rfl) ?_
  refine vc_seq ?_
  refine vc_go (by kernel_rfl) fun K hK => hK _ _ _ ?_
  clear hK K
  refine vc_seq ?_
  refine vc_go (by kernel_rfl) fun K hK => hK _ _ _ ?_
  clear hK K
  refine vc_seq ?_
  refine vc_seq ?_
  refine vc_go (by kernel_rfl) fun K hK => hK _ _ _ ?_
  clear hK K
  refine vc_cond rfl (fun c0 => ?_) (fun c0 => ?_)
  · -- cond 0 t22 true
    refine vc_go (by kernel_rfl) fun K hK => hK _ _ _ ?_
    clear hK K
    refine vc_seq ?_
    refine vc_seq ?_
    refine vc_reg (by kernel_rfl) fun K hK => ?_
    refine run_n (z := false) 2 (fun K' hK' => hK' _ _ _ ?_) (by decide)
    clear hK' K'
    refine run_call (p29r _ _ _ _) rfl rfl rfl rfl ?_
    refine run_n (z := false) 2 (fun K' hK' => hK' _ _ _ ?_) (by decide)
    clear hK' K'
    refine vgo_case 31 rfl (fun g0 => ?_) (fun g0 => ?_)
    · -- split 0 at 4,5 true
      refine run_end (z := false) fun K' hK' => hK' _ _ _ (hK _ _ _ ?_)
      clear hK' K' hK K
      refine vc_cond rfl (fun c1 => ?_) (fun c1 => ?_)
      · -- cond 1 t37 true
        refine vc_seq ?_
        refine vc_go (by kernel_rfl) fun K hK => hK _ _ _ ?_
        clear hK K
        refine vc_ret ⟨.inr rfl, ?_⟩
        refine Eq.trans (b := some (.tuple #[.agg #[.int .u64 _, .int .u64 _], .int .i64 _])) rfl ?_
        simp only [decide_eq_true_eq, decide_eq_false_iff_not, wrap64, cmp_neg] at *
        refine fin_we 0 rfl rfl (if_neg ?_)
        omega
      · -- cond 1 t37 false
        refine vc_skip ?_
        refine vc_seq ?_
        refine vc_go (by kernel_rfl) fun K hK => hK _ _ _ ?_
        clear hK K
        refine vc_ret ⟨.inr rfl, ?_⟩
        cases c1
    · -- split 0 at 4,5 false
      refine run_end (z := false) fun K' hK' => hK' _ _ _ (hK _ _ _ ?_)
      clear hK' K' hK K
      refine vc_cond rfl (fun c2 => ?_) (fun c2 => ?_)
      · -- cond 2 t37 true
        refine vc_seq ?_
        refine vc_go (by kernel_rfl) fun K hK => hK _ _ _ ?_
        clear hK K
        refine vc_ret ⟨.inr rfl, ?_⟩
        refine Eq.trans (b := some (.tuple #[.agg #[.int .u64 _, .int .u64 _], .int .i64 _])) rfl ?_
        simp only [decide_eq_true_eq, decide_eq_false_iff_not, wrap64, cmp_neg] at *
        refine fin_we 0 rfl rfl (if_neg ?_)
        omega
      · -- cond 2 t37 false
        refine vc_skip ?_
        refine vc_seq ?_
        refine vc_go (by kernel_rfl) fun K hK => hK _ _ _ ?_
        clear hK K
        refine vc_ret ⟨.inr rfl, ?_⟩
        refine Eq.trans (b := some (.tuple #[.agg #[.int .u64 _, .int .u64 _], .int .i64 _])) rfl ?_
        simp only [decide_eq_true_eq, decide_eq_false_iff_not, wrap64, cmp_neg] at *
        refine fin_we (a + b) ?_ ?_ (if_pos ?_) <;> omega
  · -- cond 0 t22 false
    refine vc_skip ?_
    refine vc_seq ?_
    refine vc_seq ?_
    refine vc_reg (by kernel_rfl) fun K hK => ?_
    refine run_n (z := false) 2 (fun K' hK' => hK' _ _ _ ?_) (by decide)
    clear hK' K'
    refine run_call (p29r _ _ _ _) rfl rfl rfl rfl ?_
    refine run_n (z := false) 2 (fun K' hK' => hK' _ _ _ ?_) (by decide)
    clear hK' K'
    refine vgo_case 31 rfl (fun g1 => ?_) (fun g1 => ?_)
    · -- split 1 at 4,5 true
      refine run_end (z := false) fun K' hK' => hK' _ _ _ (hK _ _ _ ?_)
      clear hK' K' hK K
      refine vc_cond rfl (fun c3 => ?_) (fun c3 => ?_)
      · -- cond 3 t37 true
        refine vc_seq ?_
        refine vc_go (by kernel_rfl) fun K hK => hK _ _ _ ?_
        clear hK K
        refine vc_ret ⟨.inr rfl, ?_⟩
        refine Eq.trans (b := some (.tuple #[.agg #[.int .u64 _, .int .u64 _], .int .i64 _])) rfl ?_
        simp only [decide_eq_true_eq, decide_eq_false_iff_not, wrap64, cmp_neg] at *
        refine fin_we 0 rfl rfl (if_neg ?_)
        omega
      · -- cond 3 t37 false
        refine vc_skip ?_
        refine vc_seq ?_
        refine vc_go (by kernel_rfl) fun K hK => hK _ _ _ ?_
        clear hK K
        refine vc_ret ⟨.inr rfl, ?_⟩
        cases c3
    · -- split 1 at 4,5 false
      refine run_end (z := false) fun K' hK' => hK' _ _ _ (hK _ _ _ ?_)
      clear hK' K' hK K
      refine vc_cond rfl (fun c4 => ?_) (fun c4 => ?_)
      · -- cond 4 t37 true
        refine vc_seq ?_
        refine vc_go (by kernel_rfl) fun K hK => hK _ _ _ ?_
        clear hK K
        refine vc_ret ⟨.inr rfl, ?_⟩
        refine Eq.trans (b := some (.tuple #[.agg #[.int .u64 _, .int .u64 _], .int .i64 _])) rfl ?_
        simp only [decide_eq_true_eq, decide_eq_false_iff_not, wrap64, cmp_neg] at *
        refine fin_we 0 rfl rfl (if_neg ?_)
        omega
      · -- cond 4 t37 false
        refine vc_skip ?_
        refine vc_seq ?_
        refine vc_go (by kernel_rfl) fun K hK => hK _ _ _ ?_
        clear hK K
        refine vc_ret ⟨.inr rfl, ?_⟩
        refine Eq.trans (b := some (.tuple #[.agg #[.int .u64 _, .int .u64 _], .int .i64 _])) rfl ?_
        simp only [decide_eq_true_eq, decide_eq_false_iff_not, wrap64, cmp_neg] at *
        refine fin_we (a + b) ?_ ?_ (if_pos ?_) <;> omega

theorem p36 (a b : Nat) (ha : a < 2 ^ 128) (hb : b < 2 ^ 128) : Pure 36 [wd a, wd b] (if a < b then resW 0 131 else resW (a - b) 0) := by
  refine pure_of Try.func36 rfl Try.ntmps36 (by kernel_rfl) rfl (by simp) (by split <;> rfl) ?_
  refine vc_seq ?_
  refine vc_go (by kernel_rfl) fun K hK => hK _ _ _ ?_
  clear hK K
  refine vc_seq ?_
  refine vc_seq ?_
  refine vc_reg (by kernel_rfl) fun K hK => ?_
  refine run_n (z := false) 2 (fun K' hK' => hK' _ _ _ ?_) (by decide)
  clear hK' K'
  refine run_call (p29r _ _ _ _) rfl rfl rfl rfl ?_
  refine run_end (z := false) fun K' hK' => hK' _ _ _ (hK _ _ _ ?_)
  clear hK' K' hK K
  refine vc_cond rfl (fun c0 => ?_) (fun c0 => ?_)
  · -- cond 0 t10 true
    refine vc_seq ?_
    refine vc_go (by kernel_rfl) fun K hK => hK _ _ _ ?_
    clear hK K
    refine vc_ret ⟨.inr rfl, ?_⟩
    refine Eq.trans (b := some (.tuple #[.agg #[.int .u64 _, .int .u64 _], .int .i64 _])) rfl ?_
    simp only [decide_eq_true_eq, decide_eq_false_iff_not, wrap64, cmp_neg] at *
    refine fin_we 0 rfl rfl (if_pos ?_)
    omega
  · -- cond 0 t10 false
    refine vc_skip ?_
    refine vc_seq ?_
    refine vc_go (by kernel_rfl) fun K hK => hK _ _ _ ?_
    clear hK K
    refine vc_seq ?_
    refine vc_seq ?_
    refine vc_go (by kernel_rfl) fun K hK => hK _ _ _ ?_
    clear hK K
    refine vc_cond rfl (fun c1 => ?_) (fun c1 => ?_)
    · -- cond 1 t27 true
      refine vc_go (by kernel_rfl) fun K hK => hK _ _ _ ?_
      clear hK K
      refine vc_seq ?_
      refine vc_go (by kernel_rfl) fun K hK => hK _ _ _ ?_
      clear hK K
      refine vc_ret ⟨.inr rfl, ?_⟩
      refine Eq.trans (b := some (.tuple #[.agg #[.int .u64 _, .int .u64 _], .int .i64 _])) rfl ?_
      simp only [decide_eq_true_eq, decide_eq_false_iff_not, wrap64, cmp_neg] at *
      refine fin_we (a - b) ?_ ?_ (if_neg ?_) <;> omega
    · -- cond 1 t27 false
      refine vc_skip ?_
      refine vc_seq ?_
      refine vc_go (by kernel_rfl) fun K hK => hK _ _ _ ?_
      clear hK K
      refine vc_ret ⟨.inr rfl, ?_⟩
      refine Eq.trans (b := some (.tuple #[.agg #[.int .u64 _, .int .u64 _], .int .i64 _])) rfl ?_
      simp only [decide_eq_true_eq, decide_eq_false_iff_not, wrap64, cmp_neg] at *
      refine fin_we (a - b) ?_ ?_ (if_neg ?_) <;> omega
end Go.Proofs.Ytdfkcijholopoaa.Vm
namespace Go.Proofs.Ytdfkcijholopoaa.Vm
open Go Go.RowKit
set_option maxRecDepth 10000
set_option linter.unusedSimpArgs false

/-- Quarter k of v. -/
def lb (v k : Nat) : Nat := v / 2 ^ (32 * k) % 2 ^ 32
def u64 (n : Nat) : Value := .int .u64 (n : Int)
/-- The seven quarters of v. -/
def limbs (v : Nat) : List Value := [u64 (lb v 0), u64 (lb v 1), u64 (lb v 2), u64 (lb v 3), u64 (lb v 4), u64 (lb v 5), u64 (lb v 6)]
def q7 (v : Nat) : Value := .agg (limbs v).toArray

theorem lb_lt (v k : Nat) : lb v k < 2 ^ 32 := Nat.mod_lt _ (by decide)
theorem limbs_get (v : Nat) {k : Nat} (hk : k < 7) : (limbs v)[k]? = some (u64 (lb v k)) := by
  match k, hk with
  | 0, _ => rfl
  | 1, _ => rfl
  | 2, _ => rfl
  | 3, _ => rfl
  | 4, _ => rfl
  | 5, _ => rfl
  | 6, _ => rfl
theorem lb_le (v k : Nat) : lb v k * 2 ^ (32 * k) ≤ v :=
  Nat.le_trans (Nat.mul_le_mul_right _ (Nat.mod_le _ _)) (Nat.div_mul_le_self _ _)

/-- Quarter k written: by y. -/
def put (v k y : Nat) : Nat := v - lb v k * 2 ^ (32 * k) + y * 2 ^ (32 * k)
theorem gput_split {B v k y : Nat} : v - v / B ^ k % B * B ^ k + y * B ^ k = v / B ^ (k + 1) * B ^ (k + 1) + y * B ^ k + v % B ^ k := by
  have h1 : B ^ k * (v / B ^ k) + v % B ^ k = v := Nat.div_add_mod _ _
  have h2 : B * (v / B ^ k / B) + v / B ^ k % B = v / B ^ k := Nat.div_add_mod _ _
  have h3 : v / B ^ k / B = v / B ^ (k + 1) := by rw [Nat.div_div_eq_div_mul, ← Nat.pow_succ]
  rw [h3] at h2
  rw [Nat.pow_succ] at *
  generalize v / (B ^ k * B) = q at *
  generalize v / B ^ k % B = d at *
  generalize v % B ^ k = l at *
  generalize v / B ^ k = x at *
  generalize B ^ k = p at *
  subst h2
  have e1 : p * (B * q + d) = q * (p * B) + d * p := by
    rw [Nat.mul_add, Nat.mul_comm p d, Nat.mul_comm q, ← Nat.mul_assoc]
  rw [e1] at h1
  generalize q * (p * B) = m at *
  generalize d * p = n at *
  omega
theorem gput_lb {B v k y : Nat} (hB : 0 < B) (hy : y < B) (j : Nat) : (v - v / B ^ k % B * B ^ k + y * B ^ k) / B ^ j % B = if j = k then y else v / B ^ j % B := by
  rw [gput_split]
  have hp : ∀ n, 0 < B ^ n := fun n => Nat.pow_pos hB
  have hl : v % B ^ k < B ^ k := Nat.mod_lt _ (hp k)
  rcases Nat.lt_trichotomy j k with h | h | h
  · rw [if_neg (by omega)]
    obtain ⟨d, rfl⟩ : ∃ d, k = j + 1 + d := ⟨k - (j + 1), by omega⟩
    have e1 : B ^ (j + 1 + d) = B ^ j * (B * B ^ d) := by rw [Nat.pow_add, Nat.pow_succ, Nat.mul_assoc]
    have e2 : v / B ^ (j + 1 + d + 1) * B ^ (j + 1 + d + 1) + y * B ^ (j + 1 + d) = B ^ j * (B * ((v / B ^ (j + 1 + d + 1) * B + y) * B ^ d)) := by
      generalize v / B ^ (j + 1 + d + 1) = a
      rw [Nat.pow_succ, e1]
      simp only [Nat.add_mul, Nat.mul_add, Nat.mul_assoc, Nat.mul_comm, Nat.mul_left_comm]
    have e3 : B ^ j * (B * (v / B ^ (j + 1 + d) * B ^ d)) + v % B ^ (j + 1 + d) = v := by
      have := Nat.div_add_mod v (B ^ (j + 1 + d))
      generalize v / B ^ (j + 1 + d) = a at *
      generalize v % B ^ (j + 1 + d) = b at *
      rw [e1] at this
      rw [← this]
      simp only [Nat.mul_assoc, Nat.mul_comm, Nat.mul_left_comm]
    rw [e2, Nat.mul_add_div (hp j), Nat.mul_add_mod]
    have e4 : v / B ^ j % B = (B ^ j * (B * (v / B ^ (j + 1 + d) * B ^ d)) + v % B ^ (j + 1 + d)) / B ^ j % B := by rw [e3]
    rw [e4, Nat.mul_add_div (hp j), Nat.mul_add_mod]
  · subst h
    rw [if_pos rfl]
    have e2 : v / B ^ (j + 1) * B ^ (j + 1) + y * B ^ j = B ^ j * (B * (v / B ^ (j + 1)) + y) := by
      generalize v / B ^ (j + 1) = a
      rw [Nat.pow_succ]
      simp only [Nat.add_mul, Nat.mul_add, Nat.mul_assoc, Nat.mul_comm, Nat.mul_left_comm]
    rw [e2, Nat.mul_add_div (hp j), Nat.div_eq_of_lt hl, Nat.add_zero, Nat.mul_add_mod, Nat.mod_eq_of_lt hy]
  · rw [if_neg (by omega)]
    obtain ⟨d, rfl⟩ : ∃ d, j = k + 1 + d := ⟨j - (k + 1), by omega⟩
    have e2 : (v / B ^ (k + 1) * B ^ (k + 1) + y * B ^ k + v % B ^ k) / B ^ (k + 1) = v / B ^ (k + 1) := by
      have h5 : y * B ^ k + v % B ^ k < B ^ (k + 1) := by
        have h6 : (y + 1) * B ^ k ≤ B * B ^ k := Nat.mul_le_mul_right _ hy
        rw [Nat.add_mul, Nat.one_mul, Nat.mul_comm B, ← Nat.pow_succ] at h6
        exact Nat.lt_of_lt_of_le (Nat.add_lt_add_left hl _) h6
      rw [Nat.mul_comm (v / _), Nat.add_assoc, Nat.mul_add_div (hp (k + 1)), Nat.div_eq_of_lt h5, Nat.add_zero]
    rw [Nat.pow_add B (k + 1) d, ← Nat.div_div_eq_div_mul, ← Nat.div_div_eq_div_mul, e2]
theorem put_lb {v k y : Nat} (hy : y < 2 ^ 32) (j : Nat) : lb (put v k y) j = if j = k then y else lb v j := by
  have := gput_lb (B := 2 ^ 32) (v := v) (k := k) (by decide) hy j
  unfold put lb
  simp only [Nat.pow_mul]
  exact this
theorem put_lt {v k y : Nat} (hk : k < 7) (hy : y < 2 ^ 32) (hv : v < 2 ^ 224) : put v k y < 2 ^ 224 := by
  unfold put lb
  match k, hk with
  | 0, _ => omega
  | 1, _ => omega
  | 2, _ => omega
  | 3, _ => omega
  | 4, _ => omega
  | 5, _ => omega
  | 6, _ => omega
theorem limbs_put {v k y : Nat} (hk : k < 7) (hy : y < 2 ^ 32) : (limbs v).set k (u64 y) = limbs (put v k y) := by
  apply List.ext_getElem?
  intro i
  by_cases hi : i < 7
  · rw [limbs_get _ hi, put_lb hy, List.getElem?_set]
    split
    · subst_vars
      rw [if_pos (by simpa [limbs] using hk), if_pos rfl]
    · rw [limbs_get _ hi, if_neg (by omega)]
  · rw [List.getElem?_eq_none (by simp [limbs]; omega), List.getElem?_eq_none (by simp [limbs]; omega)]
theorem limbs_zero : limbs 0 = List.replicate 7 (u64 0) := by rfl

theorem wrapN {n : Nat} (h : n < 2 ^ 64) : IntKind.u64.wrap (n : Int) = (n : Int) := by rw [wrap64]; omega
theorem wrapI {n : Int} (h : -2 ^ 63 ≤ n) (h' : n < 2 ^ 63) : IntKind.i64.wrap n = n := by
  have e : IntKind.i64.wrap n = if n % 2 ^ 64 ≥ 2 ^ 63 then n % 2 ^ 64 - 2 ^ 64 else n % 2 ^ 64 := by simp [IntKind.wrap, IntKind.bits, IntKind.signed]
  rw [e]
  split <;> omega
theorem shr_nat (n k : Nat) (hk : k ≤ 64) : ((n : Int)).fdiv (2 ^ (min (k : Int).toNat IntKind.u64.bits)) = ((n / 2 ^ k : Nat) : Int) := by
  have : min (k : Int).toNat IntKind.u64.bits = k := by rw [Int.toNat_natCast]; exact Nat.min_eq_left hk
  rw [this]
  have h2 : ((2 : Int) ^ k) = ((2 ^ k : Nat) : Int) := by simp
  rw [h2, Int.fdiv_eq_ediv_of_nonneg _ (Int.natCast_nonneg _)]
  rfl
theorem and_nat (a b : Nat) (ha : a < 2 ^ 64) (hb : b < 2 ^ 64) : IntKind.u64.wrap ((BitVec.ofInt IntKind.u64.bits (a : Int) &&& BitVec.ofInt IntKind.u64.bits (b : Int)).toNat : Int) = ((a &&& b : Nat) : Int) := by
  have h : (BitVec.ofInt IntKind.u64.bits (a : Int) &&& BitVec.ofInt IntKind.u64.bits (b : Int)).toNat = a &&& b := by
    show (BitVec.ofInt 64 (a : Int) &&& BitVec.ofInt 64 (b : Int)).toNat = a &&& b
    rw [BitVec.toNat_and, BitVec.ofInt_natCast, BitVec.ofInt_natCast, BitVec.toNat_ofNat, BitVec.toNat_ofNat, Nat.mod_eq_of_lt ha, Nat.mod_eq_of_lt hb]
  rw [h]
  exact wrapN (Nat.lt_of_le_of_lt Nat.and_le_left ha)
theorem or_nat (a b : Nat) (ha : a < 2 ^ 64) (hb : b < 2 ^ 64) : IntKind.u64.wrap ((BitVec.ofInt IntKind.u64.bits (a : Int) ||| BitVec.ofInt IntKind.u64.bits (b : Int)).toNat : Int) = ((a ||| b : Nat) : Int) := by
  have h : (BitVec.ofInt IntKind.u64.bits (a : Int) ||| BitVec.ofInt IntKind.u64.bits (b : Int)).toNat = a ||| b := by
    show (BitVec.ofInt 64 (a : Int) ||| BitVec.ofInt 64 (b : Int)).toNat = a ||| b
    rw [BitVec.toNat_or, BitVec.ofInt_natCast, BitVec.ofInt_natCast, BitVec.toNat_ofNat, BitVec.toNat_ofNat, Nat.mod_eq_of_lt ha, Nat.mod_eq_of_lt hb]
  rw [h]
  exact wrapN (Nat.or_lt_two_pow ha hb)
theorem and_low (a : Nat) (ha : a < 2 ^ 64) : IntKind.u64.wrap ((BitVec.ofInt IntKind.u64.bits (a : Int) &&& BitVec.ofInt IntKind.u64.bits 4294967295).toNat : Int) = ((a % 2 ^ 32 : Nat) : Int) := by
  have h := and_nat a 4294967295 ha (by decide)
  rw [show (4294967295 : Nat) = 2 ^ 32 - 1 from rfl, Nat.and_two_pow_sub_one_eq_mod] at h
  exact h
end Go.Proofs.Ytdfkcijholopoaa.Vm
namespace Go.Proofs.Ytdfkcijholopoaa.Vm
open Go Go.RowKit
set_option maxRecDepth 10000
set_option linter.unusedSimpArgs false


theorem fin_q {x0 x1 x2 x3 x4 x5 x6 : Int} (v : Nat) (h0 : x0 = (lb v 0 : Int)) (h1 : x1 = (lb v 1 : Int)) (h2 : x2 = (lb v 2 : Int)) (h3 : x3 = (lb v 3 : Int)) (h4 : x4 = (lb v 4 : Int)) (h5 : x5 = (lb v 5 : Int)) (h6 : x6 = (lb v 6 : Int)) :
    some (Value.agg #[.int .u64 x0, .int .u64 x1, .int .u64 x2, .int .u64 x3, .int .u64 x4, .int .u64 x5, .int .u64 x6]) = some (q7 v) := by subst h0 h1 h2 h3 h4 h5 h6; rfl
theorem shr32 (n : Nat) : ((n : Int)).fdiv (2 ^ (min (32 : Int).toNat IntKind.u64.bits)) = ((n / 2 ^ 32 : Nat) : Int) := shr_nat n 32 (by decide)
theorem p77 (v : Nat) (hv : v < 2 ^ 128) : Pure 77 [wd v] (q7 v) := by
  refine pure_of Try.func77 rfl Try.ntmps77 (by kernel_rfl) rfl (by simp) rfl ?_
  refine vc_seq ?_
  refine vc_go (by kernel_rfl) fun K hK => hK _ _ _ ?_
  clear hK K
  refine vc_seq ?_
  refine vc_go (by kernel_rfl) fun K hK => hK _ _ _ ?_
  clear hK K
  refine vc_ret ⟨.inr rfl, ?_⟩
  refine Eq.trans (b := some (.agg #[.int .u64 _, .int .u64 _, .int .u64 _, .int .u64 _, .int .u64 _, .int .u64 _, .int .u64 _])) rfl ?_
  refine fin_q v ?_ ?_ ?_ ?_ ?_ ?_ ?_
  · rw [and_low _ (by omega)]; simp only [lb] <;> omega
  · refine (shr32 _).trans ?_; simp only [lb] <;> omega
  · rw [and_low _ (by omega)]; simp only [lb] <;> omega
  · refine (shr32 _).trans ?_; simp only [lb] <;> omega
  · simp only [lb] <;> omega
  · simp only [lb] <;> omega
  · simp only [lb] <;> omega

theorem or_pair {a b : Nat} (ha : a < 2 ^ 32) (hb : b < 2 ^ 32) : IntKind.u64.wrap ((BitVec.ofInt IntKind.u64.bits (IntKind.u64.wrap ((a : Int) * 2 ^ (min (32 : Int).toNat IntKind.u64.bits))) ||| BitVec.ofInt IntKind.u64.bits (b : Int)).toNat : Int) = ((a * 2 ^ 32 + b : Nat) : Int) := by
  have h : IntKind.u64.wrap ((a : Int) * 2 ^ (min (32 : Int).toNat IntKind.u64.bits)) = ((a * 2 ^ 32 : Nat) : Int) := by
    have : min (32 : Int).toNat IntKind.u64.bits = 32 := by decide
    rw [this, wrap64]
    omega
  rw [h, or_nat _ _ (by omega) (by omega), Nat.mul_comm, Nat.two_pow_add_eq_or_of_lt hb]
theorem fin_wb {v : Nat} {x y : Int} {b : Bool} (hx : x = ((v % 2 ^ 128 / 2 ^ 64 : Nat) : Int)) (hy : y = ((v % 2 ^ 128 % 2 ^ 64 : Nat) : Int)) (hb : b = decide (v < 2 ^ 128)) :
    some (Value.tuple #[.agg #[.int .u64 x, .int .u64 y], .bool b]) = some (.tuple #[wd (v % 2 ^ 128), .bool (decide (v < 2 ^ 128))]) := by subst hx hy hb; rfl
theorem p79 (v : Nat) (hv : v < 2 ^ 224) : Pure 79 [q7 v] (.tuple #[wd (v % 2 ^ 128), .bool (decide (v < 2 ^ 128))]) := by
  refine pure_of Try.func79 rfl Try.ntmps79 (by kernel_rfl) rfl (by simp) rfl ?_
  refine vc_seq ?_
  refine vc_go (by kernel_rfl) fun K hK => hK _ _ _ ?_
  clear hK K
  refine vc_seq ?_
  refine vc_regD [(23, 26)] (by kernel_rfl) (by kernel_rfl) fun K hK => ?_
  refine runD_n (z := false) 17 (fun K' hK' => hK' _ _ _ _ ?_) (by decide)
  clear hK' K'
  refine W_case 20 rfl (fun g0 => ?_) (fun g0 => ?_)
  · -- split 0 at 1,17 true
    refine runD_n (z := false) 5 (fun K' hK' => hK' _ _ _ _ ?_) (by decide)
    clear hK' K'
    refine W_case 25 rfl (fun g1 => ?_) (fun g1 => ?_)
    · -- split 1 at 1,22 true
      refine runD_end (z := false) fun K' hK' => hK' _ _ _ _ (hK _ _ _ ?_)
      clear hK' K' hK K
      refine vc_ret ⟨.inr rfl, ?_⟩
      refine Eq.trans (b := some (.tuple #[.agg #[.int .u64 _, .int .u64 _], .bool _])) rfl ?_
      simp only [decide_eq_true_eq, decide_eq_false_iff_not, beq_iff_eq, beq_eq_false_iff_ne] at *
      refine fin_wb ?_ ?_ ?_
      · rw [or_pair (lb_lt _ _) (lb_lt _ _)]; simp only [lb] <;> omega
      · rw [or_pair (lb_lt _ _) (lb_lt _ _)]; simp only [lb] <;> omega
      · simp only [lb] at *; rw [Bool.eq_iff_iff]; simp only [decide_eq_true_eq, beq_iff_eq, Bool.false_eq_true, reduceCtorEq, true_iff, false_iff, Bool.true_eq_false, iff_false, iff_true] at * <;> omega
    · -- split 1 at 1,22 false
      refine runD_end (z := false) fun K' hK' => hK' _ _ _ _ (hK _ _ _ ?_)
      clear hK' K' hK K
      refine vc_ret ⟨.inr rfl, ?_⟩
      refine Eq.trans (b := some (.tuple #[.agg #[.int .u64 _, .int .u64 _], .bool _])) rfl ?_
      simp only [decide_eq_true_eq, decide_eq_false_iff_not, beq_iff_eq, beq_eq_false_iff_ne] at *
      refine fin_wb ?_ ?_ ?_
      · rw [or_pair (lb_lt _ _) (lb_lt _ _)]; simp only [lb] <;> omega
      · rw [or_pair (lb_lt _ _) (lb_lt _ _)]; simp only [lb] <;> omega
      · simp only [lb] at *; rw [Bool.eq_iff_iff]; simp only [decide_eq_true_eq, beq_iff_eq, Bool.false_eq_true, reduceCtorEq, true_iff, false_iff, Bool.true_eq_false, iff_false, iff_true] at * <;> omega
  · -- split 0 at 1,17 false
    refine runD_n (z := false) 5 (fun K' hK' => hK' _ _ _ _ ?_) (by decide)
    clear hK' K'
    refine W_case 25 rfl (fun g2 => ?_) (fun g2 => ?_)
    · -- split 2 at 1,22 true
      refine runD_end (z := false) fun K' hK' => hK' _ _ _ _ (hK _ _ _ ?_)
      clear hK' K' hK K
      refine vc_ret ⟨.inr rfl, ?_⟩
      refine Eq.trans (b := some (.tuple #[.agg #[.int .u64 _, .int .u64 _], .bool _])) rfl ?_
      simp only [decide_eq_true_eq, decide_eq_false_iff_not, beq_iff_eq, beq_eq_false_iff_ne] at *
      refine fin_wb ?_ ?_ ?_
      · rw [or_pair (lb_lt _ _) (lb_lt _ _)]; simp only [lb] <;> omega
      · rw [or_pair (lb_lt _ _) (lb_lt _ _)]; simp only [lb] <;> omega
      · simp only [lb] at *; rw [Bool.eq_iff_iff]; simp only [decide_eq_true_eq, beq_iff_eq, Bool.false_eq_true, reduceCtorEq, true_iff, false_iff, Bool.true_eq_false, iff_false, iff_true] at * <;> omega
    · -- split 2 at 1,22 false
      refine runD_end (z := false) fun K' hK' => hK' _ _ _ _ (hK _ _ _ ?_)
      clear hK' K' hK K
      refine vc_ret ⟨.inr rfl, ?_⟩
      refine Eq.trans (b := some (.tuple #[.agg #[.int .u64 _, .int .u64 _], .bool _])) rfl ?_
      simp only [decide_eq_true_eq, decide_eq_false_iff_not, beq_iff_eq, beq_eq_false_iff_ne] at *
      refine fin_wb ?_ ?_ ?_
      · rw [or_pair (lb_lt _ _) (lb_lt _ _)]; simp only [lb] <;> omega
      · rw [or_pair (lb_lt _ _) (lb_lt _ _)]; simp only [lb] <;> omega
      · simp only [lb] at *; rw [Bool.eq_iff_iff]; simp only [decide_eq_true_eq, beq_iff_eq, Bool.false_eq_true, reduceCtorEq, true_iff, false_iff, Bool.true_eq_false, iff_false, iff_true] at * <;> omega
end Go.Proofs.Ytdfkcijholopoaa.Vm
namespace Go.Proofs.Ytdfkcijholopoaa.Vm
open Go Go.RowKit
set_option maxRecDepth 10000
set_option linter.unusedSimpArgs false
set_option linter.unusedVariables false

theorem put_eq (A j y : Nat) : put A j y + lb A j * 2 ^ (32 * j) = A + y * 2 ^ (32 * j) := by
  have := lb_le A j
  unfold put
  generalize lb A j * 2 ^ (32 * j) = a at *
  generalize y * 2 ^ (32 * j) = b at *
  omega
/-- One step of a pass that adds: what is carried goes on. -/
theorem pass_step {A c j w : Nat} : put A j ((c + (lb A j + w)) % 2 ^ 32) + (c + (lb A j + w)) / 2 ^ 32 * 2 ^ (32 * (j + 1)) = A + c * 2 ^ (32 * j) + w * 2 ^ (32 * j) := by
  have h1 := put_eq A j ((c + (lb A j + w)) % 2 ^ 32)
  have h2 : 2 ^ (32 * (j + 1)) = 2 ^ 32 * 2 ^ (32 * j) := by rw [← Nat.pow_add]; exact congrArg (2 ^ ·) (by omega)
  have h3 : (c + (lb A j + w)) % 2 ^ 32 * 2 ^ (32 * j) + (c + (lb A j + w)) / 2 ^ 32 * 2 ^ (32 * (j + 1)) = c * 2 ^ (32 * j) + lb A j * 2 ^ (32 * j) + w * 2 ^ (32 * j) := by
    rw [h2, ← Nat.mul_assoc, ← Nat.add_mul, Nat.mul_comm (_ / _) (2 ^ 32), Nat.mod_add_div, Nat.add_mul, Nat.add_mul, Nat.add_assoc]
  generalize (c + (lb A j + w)) / 2 ^ 32 * 2 ^ (32 * (j + 1)) = a at *
  generalize (c + (lb A j + w)) % 2 ^ 32 * 2 ^ (32 * j) = b at *
  generalize lb A j * 2 ^ (32 * j) = d at *
  omega
theorem plus_step {A c k r : Nat} (h : A + c * 2 ^ (32 * k) = r) : put A k ((c + (lb A k + 0)) % 2 ^ 32) + (c + (lb A k + 0)) / 2 ^ 32 * 2 ^ (32 * (k + 1)) = r := by
  have h1 := pass_step (A := A) (c := c) (j := k) (w := 0)
  rw [h1, h, Nat.zero_mul]
  rfl
theorem mod_step (v k : Nat) : v % 2 ^ (32 * (k + 1)) = v % 2 ^ (32 * k) + lb v k * 2 ^ (32 * k) := by
  have h2 : 2 ^ (32 * (k + 1)) = 2 ^ (32 * k) * 2 ^ 32 := by rw [← Nat.pow_add]; exact congrArg (2 ^ ·) (by omega)
  rw [h2, Nat.mod_mul, lb, Nat.mul_comm (2 ^ (32 * k))]
theorem times_step {A c old f v k i : Nat} (h : A + c * 2 ^ (32 * (k + i)) = old + f * 2 ^ (32 * i) * (v % 2 ^ (32 * k))) :
    put A (k + i) ((c + (lb A (k + i) + lb v k * f)) % 2 ^ 32) + (c + (lb A (k + i) + lb v k * f)) / 2 ^ 32 * 2 ^ (32 * (k + 1 + i)) = old + f * 2 ^ (32 * i) * (v % 2 ^ (32 * (k + 1))) := by
  have h1 := pass_step (A := A) (c := c) (j := k + i) (w := lb v k * f)
  rw [show k + 1 + i = k + i + 1 by omega, h1, h, mod_step]
  have h2 : 2 ^ (32 * (k + i)) = 2 ^ (32 * i) * 2 ^ (32 * k) := by rw [← Nat.pow_add]; exact congrArg (2 ^ ·) (by omega)
  have e : lb v k * f * (2 ^ (32 * i) * 2 ^ (32 * k)) = f * 2 ^ (32 * i) * (lb v k * 2 ^ (32 * k)) := by
    generalize 2 ^ (32 * i) = a
    generalize 2 ^ (32 * k) = b
    generalize lb v k = d
    rw [Nat.mul_comm d f, Nat.mul_assoc, Nat.mul_assoc, Nat.mul_left_comm d a b]
  rw [h2, e, Nat.add_assoc, ← Nat.mul_add]
theorem times_lt {c x y f : Nat} (hc : c < 2 ^ 32) (hx : x < 2 ^ 32) (hy : y < 2 ^ 32) (hf : f < 2 ^ 32) : c + (x + y * f) < 2 ^ 64 := by
  have : y * f ≤ (2 ^ 32 - 1) * (2 ^ 32 - 1) := Nat.mul_le_mul (by omega) (by omega)
  omega
theorem times_raw {c x y f : Nat} (hc : c < 2 ^ 32) (hx : x < 2 ^ 32) (hy : y < 2 ^ 32) (hf : f < 2 ^ 32) : IntKind.u64.wrap ((c : Int) + IntKind.u64.wrap ((x : Int) + IntKind.u64.wrap ((y : Int) * (f : Int)))) = ((c + (x + y * f) : Nat) : Int) := by
  have := times_lt hc hx hy hf
  have e : ((y : Int) * (f : Int)) = ((y * f : Nat) : Int) := by simp
  rw [e]
  generalize y * f = z at *
  rw [wrap64, wrap64, wrap64]
  omega
theorem pass_end0 {A c old f v k : Nat} (h : A + c * 2 ^ (32 * (k + 0)) = old + f * 2 ^ (32 * 0) * (v % 2 ^ (32 * k))) (hk : k = 7) (hA : A < 2 ^ 224) (hv : v < 2 ^ 224) : A = (old + f * v) % 2 ^ 224 := by
  subst hk
  rw [Nat.mod_eq_of_lt hv, show (2 : Nat) ^ (32 * 0) = 1 from rfl, Nat.mul_one, show 32 * (7 + 0) = 224 from rfl] at h
  generalize f * v = w at *
  rw [← h, Nat.add_mul_mod_self_right, Nat.mod_eq_of_lt hA]
theorem pass_end1 {A c old f v k : Nat} (h : A + c * 2 ^ (32 * (k + 1)) = old + f * 2 ^ (32 * 1) * (v % 2 ^ (32 * k))) (hk : k = 6) (hA : A < 2 ^ 224) : A = (old + f * 2 ^ 32 * v) % 2 ^ 224 := by
  subst hk
  rw [show 32 * (6 + 1) = 224 from rfl, show 32 * 1 = 32 from rfl, show 32 * 6 = 192 from rfl] at h
  have h2 : f * 2 ^ 32 * v = f * 2 ^ 32 * (v % 2 ^ 192) + f * (v / 2 ^ 192) * 2 ^ 224 := by
    have := (Nat.mod_add_div v (2 ^ 192)).symm
    generalize v % 2 ^ 192 = r at *
    generalize v / 2 ^ 192 = q at *
    subst this
    rw [Nat.mul_add]
    congr 1
    rw [show (2 : Nat) ^ 224 = 2 ^ 32 * 2 ^ 192 from rfl]
    generalize (2 : Nat) ^ 192 = a
    generalize (2 : Nat) ^ 32 = b
    rw [Nat.mul_assoc, Nat.mul_assoc, Nat.mul_comm q, Nat.mul_assoc]
  rw [h2, ← Nat.add_assoc, ← h, Nat.add_mul_mod_self_right, Nat.add_mul_mod_self_right, Nat.mod_eq_of_lt hA]
theorem plus_end {A c old w : Nat} (h : A + c * 2 ^ (32 * 7) = old + w) (hA : A < 2 ^ 224) : A = (old + w) % 2 ^ 224 := by
  rw [show 32 * 7 = 224 from rfl] at h
  rw [← h, Nat.add_mul_mod_self_right, Nat.mod_eq_of_lt hA]
theorem times_all {v m more A1 A2 A3 A4 : Nat} (h1 : A1 = (0 + m % 2 ^ 32 * v) % 2 ^ 224) (h2 : A2 = (A1 + m / 2 ^ 32 * 2 ^ 32 * v) % 2 ^ 224) (h3 : A3 = (A2 + more % 2 ^ 32 * 2 ^ (32 * 0)) % 2 ^ 224) (h4 : A4 = (A3 + more / 2 ^ 32 * 2 ^ (32 * 1)) % 2 ^ 224) :
    A4 = (v * m + more) % 2 ^ 224 := by
  have e : v * m = m % 2 ^ 32 * v + m / 2 ^ 32 * 2 ^ 32 * v := by
    rw [← Nat.add_mul, Nat.mul_comm (m / 2 ^ 32), Nat.mod_add_div, Nat.mul_comm]
  have e' : more = more % 2 ^ 32 * 2 ^ (32 * 0) + more / 2 ^ 32 * 2 ^ (32 * 1) := by omega
  rw [e]
  generalize m % 2 ^ 32 * v = a at *
  generalize m / 2 ^ 32 * 2 ^ 32 * v = b at *
  generalize more % 2 ^ 32 * 2 ^ (32 * 0) = d at *
  generalize more / 2 ^ 32 * 2 ^ (32 * 1) = g at *
  omega
theorem agg2 {a b c d : Int} (h : a = c) (h' : b = d) : Value.agg #[.int .u64 a, .int .u64 b] = .agg #[.int .u64 c, .int .u64 d] := by rw [h, h']
theorem iu {a b : Int} (h : a = b) : Value.int .u64 a = .int .u64 b := by rw [h]
theorem ii {a b : Int} (h : a = b) : Value.int .i64 a = .int .i64 b := by rw [h]
theorem blk116 {m : Nat} {A j : Nat} {x : Int} {y : Nat} (hx : x = (y : Int)) (hj : j < 7) (hy : y < 2 ^ 32) : some (Blk.cells ((limbs A).set j (.int .u64 x)) m true) = some (.cells (limbs (put A j y)) m true) := by
  subst hx
  exact congrArg (fun c => some (Blk.cells c m true)) (limbs_put hj hy)
def pt (m : Nat) : Value := .pointer (some ⟨m, 0, none⟩)


theorem p84 (v m more : Nat) (hv : v < 2 ^ 224) (hm : m < 2 ^ 64) (hmore : more < 2 ^ 64) : Pure 84 [q7 v, u64 m, u64 more] (q7 ((v * m + more) % 2 ^ 224)) := by
  refine pure_of Try.func84 rfl Try.ntmps84 (by kernel_rfl) rfl (by simp) rfl ?_
  refine vc_seq ?_
  refine vc_go (by kernel_rfl) fun K hK => hK _ _ _ ?_
  clear hK K
  refine vc_seq ?_
  refine vc_go (by kernel_rfl) fun K hK => hK _ _ _ ?_
  clear hK K
  refine vc_seq ?_
  refine vc_seq ?_
  refine vc_go (by kernel_rfl) fun K hK => hK _ _ _ ?_
  clear hK K
  refine refocus [(1, u64 m), (2, u64 more), (3, pt 0), (6, pt 1), (7, pt 2), (20, .agg #[u64 (m % 2 ^ 32), u64 (m / 2 ^ 32)]), (21, .int .i64 0)] [(0, .cells (limbs v) 116 true), (1, .cells (limbs 0) 116 true), (2, .cells (limbs 0) 116 true)] 3 ⟨rfl, rfl, rfl, rfl, rfl, agg2 (and_low m hm) (shr32 m), rfl, trivial⟩ ⟨rfl, rfl, rfl, trivial⟩ rfl fun t h => ?_
  refine vc_block ?_
  refine vc_rounds 3 ?_
  refine vc_seq ?_
  refine vc_go (by kernel_rfl) fun K hK => hK _ _ _ ?_
  clear hK K
  refine vc_seq ?_
  refine vc_cond (t := true) rfl (fun _ => ?_) (fun h => by cases h)
  refine vc_skip ?_
  refine vc_seq ?_
  refine vc_block ?_
  refine vc_seq ?_
  refine vc_go (by kernel_rfl) fun K hK => hK _ _ _ ?_
  clear hK K
  refine vc_seq ?_
  refine vc_go (by kernel_rfl) fun K hK => hK _ _ _ ?_
  clear hK K
  refine vc_seq ?_
  refine vc_go (by kernel_rfl) fun K hK => hK _ _ _ ?_
  clear hK K
  refine vc_block ?_
  refine vc_loop (fun n s => ∃ k c A : Nat, n = 7 - k ∧ k + 0 ≤ 7 ∧ c < 2 ^ 32 ∧ A < 2 ^ 224 ∧ A + c * 2 ^ (32 * (k + 0)) = 0 + (m % 2 ^ 32) * 2 ^ (32 * 0) * (v % 2 ^ (32 * k)) ∧ IsSt [(1, u64 m), (2, u64 more), (3, pt 0), (6, pt 1), (7, pt 2), (8, .int .i64 0), (9, u64 (m % 2 ^ 32)), (10, u64 c), (11, .int .i64 (k : Nat)), (20, .agg #[u64 (m % 2 ^ 32), u64 (m / 2 ^ 32)]), (21, .int .i64 0)] [(0, .cells (limbs v) 116 true), (1, .cells (limbs 0) 116 true), (2, .cells (limbs A) 116 true)] 3 s) 7 ?_ ?_
  · exact ⟨0, 0, 0, rfl, by decide, by decide, by omega, by simp [Nat.mod_one], isSt ⟨rfl, rfl, rfl, rfl, rfl, rfl, rfl, rfl, rfl, rfl, rfl, trivial⟩ ⟨rfl, rfl, rfl, trivial⟩ rfl⟩
  · rintro n s ⟨k, c, A, hn, hk, hc, hA, hinv, t, h, rfl⟩
    have hw : IntKind.i64.wrap ((k : Int) + 0) = ((k + 0 : Nat) : Int) := by rw [wrapI (by omega) (by omega)]; omega
    have hf : (m % 2 ^ 32) < 2 ^ 32 := by omega
    refine vc_seq ?_
    refine vc_seq ?_
    refine vc_go (by kernel_rfl) fun K hK => hK _ _ _ ?_
    clear hK K
    refine vc_cond rfl (fun c1 => ?_) (fun c1 => ?_)
    · -- cond 1 t28 true
      refine vc_skip ?_
      refine vc_seq ?_
      refine vc_block ?_
      refine vc_seq ?_
      have hlt : k + 0 < 7 := by
        rw [hw] at c1
        simp only [decide_eq_true_eq] at c1
        omega
      have hT : (c + (lb A (k + 0) + lb v k * (m % 2 ^ 32))) < 2 ^ 64 := times_lt hc (lb_lt _ _) (lb_lt _ _) hf
      have hT1 : (c + (lb A (k + 0) + lb v k * (m % 2 ^ 32))) % 2 ^ 32 < 2 ^ 32 := Nat.mod_lt _ (by decide)
      have hT2 : (c + (lb A (k + 0) + lb v k * (m % 2 ^ 32))) / 2 ^ 32 < 2 ^ 32 := by omega
      refine vc_regD [] (by kernel_rfl) (by kernel_rfl) fun K hK => ?_
      refine runD_n (z := false) 4 (fun K' hK' => hK' _ _ _ _ ?_) (by decide)
      clear hK' K'
      refine runD_op (vex_ixa (j := k + 0) rfl rfl hw hlt rfl rfl) rfl ?_
      refine runD_rd (vex_ld1 (k' := k + 0) rfl (Nat.zero_add _ |>.trans (Nat.mul_one _)) rfl rfl (limbs_get A hlt)) rfl rfl ?_
      refine runD_n (z := false) 1 (fun K' hK' => hK' _ _ _ _ ?_) (by decide)
      clear hK' K'
      refine runD_op (vex_ixa (j := k) rfl rfl rfl (by omega) rfl rfl) rfl ?_
      refine runD_rd (vex_ld1 (k' := k) rfl (Nat.zero_add _ |>.trans (Nat.mul_one _)) rfl rfl (limbs_get v (by omega))) rfl rfl ?_
      refine runD_end (z := false) fun K' hK' => hK' _ _ _ _ (hK _ _ _ ?_)
      clear hK' K' hK K
      refine refocus [(1, u64 m), (2, u64 more), (3, pt 0), (6, pt 1), (7, pt 2), (8, .int .i64 0), (9, u64 (m % 2 ^ 32)), (10, u64 (c + (lb A (k + 0) + lb v k * (m % 2 ^ 32)))), (11, .int .i64 (k : Nat)), (20, .agg #[u64 (m % 2 ^ 32), u64 (m / 2 ^ 32)]), (21, .int .i64 0)] [(0, .cells (limbs v) 116 true), (1, .cells (limbs 0) 116 true), (2, .cells (limbs A) 116 true)] 3 ⟨rfl, rfl, rfl, rfl, rfl, rfl, rfl, iu (times_raw hc (lb_lt _ _) (lb_lt _ _) hf), rfl, rfl, rfl, trivial⟩ ⟨rfl, rfl, rfl, trivial⟩ rfl fun t h => ?_
      refine vc_seq ?_
      refine vc_reg (by kernel_rfl) fun K hK => ?_
      refine run_n (z := false) 5 (fun K' hK' => hK' _ _ _ ?_) (by decide)
      clear hK' K'
      refine run_op (vex_ixa (j := k + 0) rfl rfl hw hlt rfl rfl) rfl ?_
      refine run_set (vex_st1 (k' := k + 0) rfl (Nat.zero_add _ |>.trans (Nat.mul_one _)) rfl rfl rfl rfl rfl (by intro a h; cases h) hlt) rfl (by decide) rfl ?_
      refine run_end (z := false) fun K' hK' => hK' _ _ _ (hK _ _ _ ?_)
      clear hK' K' hK K
      refine vc_go (by kernel_rfl) fun K hK => hK _ _ _ ?_
      clear hK K
      refine vc_go (by kernel_rfl) fun K hK => hK _ _ _ ?_
      clear hK K
      exact ⟨7 - (k + 1), by omega, k + 1, _, _, rfl, by omega, hT2, put_lt hlt hT1 hA, times_step hinv, isSt ⟨rfl, rfl, rfl, rfl, rfl, rfl, rfl, iu (shr32 _), ii (wrapI (by omega) (by omega)), rfl, rfl, trivial⟩ ⟨rfl, rfl, blk116 (and_low _ hT) hlt hT1, trivial⟩ rfl⟩
    · -- cond 1 t28 false
      refine vc_exit ?_
      obtain ⟨A0, e0⟩ : ∃ x, x = A := ⟨_, rfl⟩
      have hA0 : A0 < 2 ^ 224 := e0 ▸ hA
      have hk7 : k = 7 := by
        rw [hw] at c1
        simp only [decide_eq_false_iff_not] at c1
        omega
      have E0 := pass_end0 hinv hk7 hA hv
      rw [← e0] at E0 ⊢
      clear hinv hk7 hc hA
      refine refocus [(1, u64 m), (2, u64 more), (3, pt 0), (6, pt 1), (7, pt 2), (20, .agg #[u64 (m % 2 ^ 32), u64 (m / 2 ^ 32)]), (21, .int .i64 0)] [(0, .cells (limbs v) 116 true), (1, .cells (limbs 0) 116 true), (2, .cells (limbs A0) 116 true)] 3 ⟨rfl, rfl, rfl, rfl, rfl, rfl, rfl, trivial⟩ ⟨rfl, rfl, rfl, trivial⟩ rfl fun t h => ?_
      refine vc_go (by kernel_rfl) fun K hK => hK _ _ _ ?_
      clear hK K
      refine vc_seq ?_
      refine vc_go (by kernel_rfl) fun K hK => hK _ _ _ ?_
      clear hK K
      refine vc_seq ?_
      refine vc_cond (t := true) rfl (fun _ => ?_) (fun h => by cases h)
      refine vc_skip ?_
      refine vc_seq ?_
      refine vc_block ?_
      refine vc_seq ?_
      refine vc_go (by kernel_rfl) fun K hK => hK _ _ _ ?_
      clear hK K
      refine vc_seq ?_
      refine vc_go (by kernel_rfl) fun K hK => hK _ _ _ ?_
      clear hK K
      refine vc_seq ?_
      refine vc_go (by kernel_rfl) fun K hK => hK _ _ _ ?_
      clear hK K
      refine vc_block ?_
      refine vc_loop (fun n s => ∃ k c A : Nat, n = 7 - k ∧ k + 1 ≤ 7 ∧ c < 2 ^ 32 ∧ A < 2 ^ 224 ∧ A + c * 2 ^ (32 * (k + 1)) = A0 + (m / 2 ^ 32) * 2 ^ (32 * 1) * (v % 2 ^ (32 * k)) ∧ IsSt [(1, u64 m), (2, u64 more), (3, pt 0), (6, pt 1), (7, pt 2), (8, .int .i64 1), (9, u64 (m / 2 ^ 32)), (10, u64 c), (11, .int .i64 (k : Nat)), (20, .agg #[u64 (m % 2 ^ 32), u64 (m / 2 ^ 32)]), (21, .int .i64 1)] [(0, .cells (limbs v) 116 true), (1, .cells (limbs 0) 116 true), (2, .cells (limbs A) 116 true)] 3 s) 7 ?_ ?_
      · exact ⟨0, 0, A0, rfl, by decide, by decide, by omega, by simp [Nat.mod_one], isSt ⟨rfl, rfl, rfl, rfl, rfl, rfl, rfl, rfl, rfl, rfl, rfl, trivial⟩ ⟨rfl, rfl, rfl, trivial⟩ rfl⟩
      · rintro n s ⟨k, c, A, hn, hk, hc, hA, hinv, t, h, rfl⟩
        have hw : IntKind.i64.wrap ((k : Int) + 1) = ((k + 1 : Nat) : Int) := by rw [wrapI (by omega) (by omega)]; omega
        have hf : (m / 2 ^ 32) < 2 ^ 32 := by omega
        refine vc_seq ?_
        refine vc_seq ?_
        refine vc_go (by kernel_rfl) fun K hK => hK _ _ _ ?_
        clear hK K
        refine vc_cond rfl (fun c3 => ?_) (fun c3 => ?_)
        · -- cond 3 t28 true
          refine vc_skip ?_
          refine vc_seq ?_
          refine vc_block ?_
          refine vc_seq ?_
          have hlt : k + 1 < 7 := by
            rw [hw] at c3
            simp only [decide_eq_true_eq] at c3
            omega
          have hT : (c + (lb A (k + 1) + lb v k * (m / 2 ^ 32))) < 2 ^ 64 := times_lt hc (lb_lt _ _) (lb_lt _ _) hf
          have hT1 : (c + (lb A (k + 1) + lb v k * (m / 2 ^ 32))) % 2 ^ 32 < 2 ^ 32 := Nat.mod_lt _ (by decide)
          have hT2 : (c + (lb A (k + 1) + lb v k * (m / 2 ^ 32))) / 2 ^ 32 < 2 ^ 32 := by omega
          refine vc_regD [] (by kernel_rfl) (by kernel_rfl) fun K hK => ?_
          refine runD_n (z := false) 4 (fun K' hK' => hK' _ _ _ _ ?_) (by decide)
          clear hK' K'
          refine runD_op (vex_ixa (j := k + 1) rfl rfl hw hlt rfl rfl) rfl ?_
          refine runD_rd (vex_ld1 (k' := k + 1) rfl (Nat.zero_add _ |>.trans (Nat.mul_one _)) rfl rfl (limbs_get A hlt)) rfl rfl ?_
          refine runD_n (z := false) 1 (fun K' hK' => hK' _ _ _ _ ?_) (by decide)
          clear hK' K'
          refine runD_op (vex_ixa (j := k) rfl rfl rfl (by omega) rfl rfl) rfl ?_
          refine runD_rd (vex_ld1 (k' := k) rfl (Nat.zero_add _ |>.trans (Nat.mul_one _)) rfl rfl (limbs_get v (by omega))) rfl rfl ?_
          refine runD_end (z := false) fun K' hK' => hK' _ _ _ _ (hK _ _ _ ?_)
          clear hK' K' hK K
          refine refocus [(1, u64 m), (2, u64 more), (3, pt 0), (6, pt 1), (7, pt 2), (8, .int .i64 1), (9, u64 (m / 2 ^ 32)), (10, u64 (c + (lb A (k + 1) + lb v k * (m / 2 ^ 32)))), (11, .int .i64 (k : Nat)), (20, .agg #[u64 (m % 2 ^ 32), u64 (m / 2 ^ 32)]), (21, .int .i64 1)] [(0, .cells (limbs v) 116 true), (1, .cells (limbs 0) 116 true), (2, .cells (limbs A) 116 true)] 3 ⟨rfl, rfl, rfl, rfl, rfl, rfl, rfl, iu (times_raw hc (lb_lt _ _) (lb_lt _ _) hf), rfl, rfl, rfl, trivial⟩ ⟨rfl, rfl, rfl, trivial⟩ rfl fun t h => ?_
          refine vc_seq ?_
          refine vc_reg (by kernel_rfl) fun K hK => ?_
          refine run_n (z := false) 5 (fun K' hK' => hK' _ _ _ ?_) (by decide)
          clear hK' K'
          refine run_op (vex_ixa (j := k + 1) rfl rfl hw hlt rfl rfl) rfl ?_
          refine run_set (vex_st1 (k' := k + 1) rfl (Nat.zero_add _ |>.trans (Nat.mul_one _)) rfl rfl rfl rfl rfl (by intro a h; cases h) hlt) rfl (by decide) rfl ?_
          refine run_end (z := false) fun K' hK' => hK' _ _ _ (hK _ _ _ ?_)
          clear hK' K' hK K
          refine vc_go (by kernel_rfl) fun K hK => hK _ _ _ ?_
          clear hK K
          refine vc_go (by kernel_rfl) fun K hK => hK _ _ _ ?_
          clear hK K
          exact ⟨7 - (k + 1), by omega, k + 1, _, _, rfl, by omega, hT2, put_lt hlt hT1 hA, times_step hinv, isSt ⟨rfl, rfl, rfl, rfl, rfl, rfl, rfl, iu (shr32 _), ii (wrapI (by omega) (by omega)), rfl, rfl, trivial⟩ ⟨rfl, rfl, blk116 (and_low _ hT) hlt hT1, trivial⟩ rfl⟩
        · -- cond 3 t28 false
          refine vc_exit ?_
          obtain ⟨A1, e1⟩ : ∃ x, x = A := ⟨_, rfl⟩
          have hA1 : A1 < 2 ^ 224 := e1 ▸ hA
          have hk7 : k = 6 := by
            rw [hw] at c3
            simp only [decide_eq_false_iff_not] at c3
            omega
          have E1 := pass_end1 hinv hk7 hA
          rw [← e1] at E1 ⊢
          clear hinv hk7 hc hA
          refine refocus [(1, u64 m), (2, u64 more), (3, pt 0), (6, pt 1), (7, pt 2), (20, .agg #[u64 (m % 2 ^ 32), u64 (m / 2 ^ 32)]), (21, .int .i64 1)] [(0, .cells (limbs v) 116 true), (1, .cells (limbs 0) 116 true), (2, .cells (limbs A1) 116 true)] 3 ⟨rfl, rfl, rfl, rfl, rfl, rfl, rfl, trivial⟩ ⟨rfl, rfl, rfl, trivial⟩ rfl fun t h => ?_
          refine vc_go (by kernel_rfl) fun K hK => hK _ _ _ ?_
          clear hK K
          refine vc_seq ?_
          refine vc_go (by kernel_rfl) fun K hK => hK _ _ _ ?_
          clear hK K
          refine vc_seq ?_
          refine vc_cond (t := false) rfl (fun h => by cases h) (fun _ => ?_)
          refine vc_exit ?_
          refine vc_seq ?_
          refine vc_seq ?_
          refine vc_go (by kernel_rfl) fun K hK => hK _ _ _ ?_
          clear hK K
          refine refocus [(1, u64 m), (2, u64 more), (3, pt 0), (6, pt 1), (7, pt 2), (57, .agg #[u64 (more % 2 ^ 32), u64 (more / 2 ^ 32)]), (58, .int .i64 0)] [(0, .cells (limbs v) 116 true), (1, .cells (limbs 0) 116 true), (2, .cells (limbs A1) 116 true)] 3 ⟨rfl, rfl, rfl, rfl, rfl, agg2 (and_low more hmore) (shr32 more), rfl, trivial⟩ ⟨rfl, rfl, rfl, trivial⟩ rfl fun t h => ?_
          refine vc_block ?_
          refine vc_rounds 3 ?_
          refine vc_seq ?_
          refine vc_go (by kernel_rfl) fun K hK => hK _ _ _ ?_
          clear hK K
          refine vc_seq ?_
          refine vc_cond (t := true) rfl (fun _ => ?_) (fun h => by cases h)
          refine vc_skip ?_
          refine vc_seq ?_
          refine vc_block ?_
          refine vc_seq ?_
          refine vc_go (by kernel_rfl) fun K hK => hK _ _ _ ?_
          clear hK K
          refine vc_seq ?_
          refine vc_go (by kernel_rfl) fun K hK => hK _ _ _ ?_
          clear hK K
          refine vc_seq ?_
          refine vc_go (by kernel_rfl) fun K hK => hK _ _ _ ?_
          clear hK K
          refine vc_block ?_
          refine vc_loop (fun n s => ∃ k c A : Nat, n = 7 - k ∧ k ≤ 7 ∧ c < 2 ^ 32 ∧ A < 2 ^ 224 ∧ A + c * 2 ^ (32 * k) = A1 + (more % 2 ^ 32) * 2 ^ (32 * 0) ∧ IsSt [(1, u64 m), (2, u64 more), (3, pt 0), (6, pt 1), (7, pt 2), (12, .int .i64 0), (14, u64 c), (15, .int .i64 (k : Nat)), (57, .agg #[u64 (more % 2 ^ 32), u64 (more / 2 ^ 32)]), (58, .int .i64 0)] [(0, .cells (limbs v) 116 true), (1, .cells (limbs 0) 116 true), (2, .cells (limbs A) 116 true)] 3 s) 7 ?_ ?_
          · exact ⟨0, (more % 2 ^ 32), A1, rfl, by decide, by omega, by omega, rfl, isSt ⟨rfl, rfl, rfl, rfl, rfl, rfl, rfl, rfl, rfl, rfl, trivial⟩ ⟨rfl, rfl, rfl, trivial⟩ rfl⟩
          · rintro n s ⟨k, c, A, hn, hk, hc, hA, hinv, t, h, rfl⟩
            refine vc_seq ?_
            refine vc_seq ?_
            refine vc_go (by kernel_rfl) fun K hK => hK _ _ _ ?_
            clear hK K
            refine vc_cond rfl (fun c6 => ?_) (fun c6 => ?_)
            · -- cond 6 t65 true
              refine vc_skip ?_
              refine vc_seq ?_
              refine vc_block ?_
              refine vc_seq ?_
              have hlt : k < 7 := by
                simp only [decide_eq_true_eq] at c6
                omega
              have hx := lb_lt A k
              have hT : (c + (lb A k + 0)) < 2 ^ 64 := by omega
              have hT1 : (c + (lb A k + 0)) % 2 ^ 32 < 2 ^ 32 := Nat.mod_lt _ (by decide)
              have hT2 : (c + (lb A k + 0)) / 2 ^ 32 < 2 ^ 32 := by omega
              refine vc_reg (by kernel_rfl) fun K hK => ?_
              refine run_n (z := false) 2 (fun K' hK' => hK' _ _ _ ?_) (by decide)
              clear hK' K'
              refine run_op (vex_ixa (j := k) rfl rfl rfl hlt rfl rfl) rfl ?_
              refine run_rd (vex_ld1 (k' := k) rfl (Nat.zero_add _ |>.trans (Nat.mul_one _)) rfl rfl (limbs_get A hlt)) rfl ?_
              refine run_end (z := false) fun K' hK' => hK' _ _ _ (hK _ _ _ ?_)
              clear hK' K' hK K
              refine refocus [(1, u64 m), (2, u64 more), (3, pt 0), (6, pt 1), (7, pt 2), (12, .int .i64 0), (14, u64 (c + (lb A k + 0))), (15, .int .i64 (k : Nat)), (57, .agg #[u64 (more % 2 ^ 32), u64 (more / 2 ^ 32)]), (58, .int .i64 0)] [(0, .cells (limbs v) 116 true), (1, .cells (limbs 0) 116 true), (2, .cells (limbs A) 116 true)] 3 ⟨rfl, rfl, rfl, rfl, rfl, rfl, iu (by rw [wrap64]; omega), rfl, rfl, rfl, trivial⟩ ⟨rfl, rfl, rfl, trivial⟩ rfl fun t h => ?_
              refine vc_seq ?_
              refine vc_reg (by kernel_rfl) fun K hK => ?_
              refine run_n (z := false) 3 (fun K' hK' => hK' _ _ _ ?_) (by decide)
              clear hK' K'
              refine run_op (vex_ixa (j := k) rfl rfl rfl hlt rfl rfl) rfl ?_
              refine run_set (vex_st1 (k' := k) rfl (Nat.zero_add _ |>.trans (Nat.mul_one _)) rfl rfl rfl rfl rfl (by intro a h; cases h) hlt) rfl (by decide) rfl ?_
              refine run_end (z := false) fun K' hK' => hK' _ _ _ (hK _ _ _ ?_)
              clear hK' K' hK K
              refine vc_go (by kernel_rfl) fun K hK => hK _ _ _ ?_
              clear hK K
              refine vc_go (by kernel_rfl) fun K hK => hK _ _ _ ?_
              clear hK K
              exact ⟨7 - (k + 1), by omega, k + 1, _, _, rfl, by omega, hT2, put_lt hlt hT1 hA, plus_step hinv, isSt ⟨rfl, rfl, rfl, rfl, rfl, rfl, iu (shr32 _), ii (wrapI (by omega) (by omega)), rfl, rfl, trivial⟩ ⟨rfl, rfl, blk116 (and_low _ hT) hlt hT1, trivial⟩ rfl⟩
            · -- cond 6 t65 false
              refine vc_exit ?_
              obtain ⟨A2, e2⟩ : ∃ x, x = A := ⟨_, rfl⟩
              have hA2 : A2 < 2 ^ 224 := e2 ▸ hA
              have hk7 : k = 7 := by
                simp only [decide_eq_false_iff_not] at c6
                omega
              subst hk7
              have E2 := plus_end hinv hA
              rw [← e2] at E2 ⊢
              clear hinv hc hA
              refine refocus [(1, u64 m), (2, u64 more), (3, pt 0), (6, pt 1), (7, pt 2), (57, .agg #[u64 (more % 2 ^ 32), u64 (more / 2 ^ 32)]), (58, .int .i64 0)] [(0, .cells (limbs v) 116 true), (1, .cells (limbs 0) 116 true), (2, .cells (limbs A2) 116 true)] 3 ⟨rfl, rfl, rfl, rfl, rfl, rfl, rfl, trivial⟩ ⟨rfl, rfl, rfl, trivial⟩ rfl fun t h => ?_
              refine vc_go (by kernel_rfl) fun K hK => hK _ _ _ ?_
              clear hK K
              refine vc_seq ?_
              refine vc_go (by kernel_rfl) fun K hK => hK _ _ _ ?_
              clear hK K
              refine vc_seq ?_
              refine vc_cond (t := true) rfl (fun _ => ?_) (fun h => by cases h)
              refine vc_skip ?_
              refine vc_seq ?_
              refine vc_block ?_
              refine vc_seq ?_
              refine vc_go (by kernel_rfl) fun K hK => hK _ _ _ ?_
              clear hK K
              refine vc_seq ?_
              refine vc_go (by kernel_rfl) fun K hK => hK _ _ _ ?_
              clear hK K
              refine vc_seq ?_
              refine vc_go (by kernel_rfl) fun K hK => hK _ _ _ ?_
              clear hK K
              refine vc_block ?_
              refine vc_loop (fun n s => ∃ k c A : Nat, n = 7 - k ∧ k ≤ 7 ∧ c < 2 ^ 32 ∧ A < 2 ^ 224 ∧ A + c * 2 ^ (32 * k) = A2 + (more / 2 ^ 32) * 2 ^ (32 * 1) ∧ IsSt [(1, u64 m), (2, u64 more), (3, pt 0), (6, pt 1), (7, pt 2), (12, .int .i64 1), (14, u64 c), (15, .int .i64 (k : Nat)), (57, .agg #[u64 (more % 2 ^ 32), u64 (more / 2 ^ 32)]), (58, .int .i64 1)] [(0, .cells (limbs v) 116 true), (1, .cells (limbs 0) 116 true), (2, .cells (limbs A) 116 true)] 3 s) 6 ?_ ?_
              · exact ⟨1, (more / 2 ^ 32), A2, rfl, by decide, by omega, by omega, rfl, isSt ⟨rfl, rfl, rfl, rfl, rfl, rfl, rfl, rfl, rfl, rfl, trivial⟩ ⟨rfl, rfl, rfl, trivial⟩ rfl⟩
              · rintro n s ⟨k, c, A, hn, hk, hc, hA, hinv, t, h, rfl⟩
                refine vc_seq ?_
                refine vc_seq ?_
                refine vc_go (by kernel_rfl) fun K hK => hK _ _ _ ?_
                clear hK K
                refine vc_cond rfl (fun c8 => ?_) (fun c8 => ?_)
                · -- cond 8 t65 true
                  refine vc_skip ?_
                  refine vc_seq ?_
                  refine vc_block ?_
                  refine vc_seq ?_
                  have hlt : k < 7 := by
                    simp only [decide_eq_true_eq] at c8
                    omega
                  have hx := lb_lt A k
                  have hT : (c + (lb A k + 0)) < 2 ^ 64 := by omega
                  have hT1 : (c + (lb A k + 0)) % 2 ^ 32 < 2 ^ 32 := Nat.mod_lt _ (by decide)
                  have hT2 : (c + (lb A k + 0)) / 2 ^ 32 < 2 ^ 32 := by omega
                  refine vc_reg (by kernel_rfl) fun K hK => ?_
                  refine run_n (z := false) 2 (fun K' hK' => hK' _ _ _ ?_) (by decide)
                  clear hK' K'
                  refine run_op (vex_ixa (j := k) rfl rfl rfl hlt rfl rfl) rfl ?_
                  refine run_rd (vex_ld1 (k' := k) rfl (Nat.zero_add _ |>.trans (Nat.mul_one _)) rfl rfl (limbs_get A hlt)) rfl ?_
                  refine run_end (z := false) fun K' hK' => hK' _ _ _ (hK _ _ _ ?_)
                  clear hK' K' hK K
                  refine refocus [(1, u64 m), (2, u64 more), (3, pt 0), (6, pt 1), (7, pt 2), (12, .int .i64 1), (14, u64 (c + (lb A k + 0))), (15, .int .i64 (k : Nat)), (57, .agg #[u64 (more % 2 ^ 32), u64 (more / 2 ^ 32)]), (58, .int .i64 1)] [(0, .cells (limbs v) 116 true), (1, .cells (limbs 0) 116 true), (2, .cells (limbs A) 116 true)] 3 ⟨rfl, rfl, rfl, rfl, rfl, rfl, iu (by rw [wrap64]; omega), rfl, rfl, rfl, trivial⟩ ⟨rfl, rfl, rfl, trivial⟩ rfl fun t h => ?_
                  refine vc_seq ?_
                  refine vc_reg (by kernel_rfl) fun K hK => ?_
                  refine run_n (z := false) 3 (fun K' hK' => hK' _ _ _ ?_) (by decide)
                  clear hK' K'
                  refine run_op (vex_ixa (j := k) rfl rfl rfl hlt rfl rfl) rfl ?_
                  refine run_set (vex_st1 (k' := k) rfl (Nat.zero_add _ |>.trans (Nat.mul_one _)) rfl rfl rfl rfl rfl (by intro a h; cases h) hlt) rfl (by decide) rfl ?_
                  refine run_end (z := false) fun K' hK' => hK' _ _ _ (hK _ _ _ ?_)
                  clear hK' K' hK K
                  refine vc_go (by kernel_rfl) fun K hK => hK _ _ _ ?_
                  clear hK K
                  refine vc_go (by kernel_rfl) fun K hK => hK _ _ _ ?_
                  clear hK K
                  exact ⟨7 - (k + 1), by omega, k + 1, _, _, rfl, by omega, hT2, put_lt hlt hT1 hA, plus_step hinv, isSt ⟨rfl, rfl, rfl, rfl, rfl, rfl, iu (shr32 _), ii (wrapI (by omega) (by omega)), rfl, rfl, trivial⟩ ⟨rfl, rfl, blk116 (and_low _ hT) hlt hT1, trivial⟩ rfl⟩
                · -- cond 8 t65 false
                  refine vc_exit ?_
                  obtain ⟨A3, e3⟩ : ∃ x, x = A := ⟨_, rfl⟩
                  have hA3 : A3 < 2 ^ 224 := e3 ▸ hA
                  have hk7 : k = 7 := by
                    simp only [decide_eq_false_iff_not] at c8
                    omega
                  subst hk7
                  have E3 := plus_end hinv hA
                  rw [← e3] at E3 ⊢
                  clear hinv hc hA
                  refine refocus [(1, u64 m), (2, u64 more), (3, pt 0), (6, pt 1), (7, pt 2), (57, .agg #[u64 (more % 2 ^ 32), u64 (more / 2 ^ 32)]), (58, .int .i64 1)] [(0, .cells (limbs v) 116 true), (1, .cells (limbs 0) 116 true), (2, .cells (limbs A3) 116 true)] 3 ⟨rfl, rfl, rfl, rfl, rfl, rfl, rfl, trivial⟩ ⟨rfl, rfl, rfl, trivial⟩ rfl fun t h => ?_
                  refine vc_go (by kernel_rfl) fun K hK => hK _ _ _ ?_
                  clear hK K
                  refine vc_seq ?_
                  refine vc_go (by kernel_rfl) fun K hK => hK _ _ _ ?_
                  clear hK K
                  refine vc_seq ?_
                  refine vc_cond (t := false) rfl (fun h => by cases h) (fun _ => ?_)
                  refine vc_exit ?_
                  refine vc_seq ?_
                  refine vc_go (by kernel_rfl) fun K hK => hK _ _ _ ?_
                  clear hK K
                  refine vc_ret ⟨.inr rfl, ?_⟩
                  rw [← times_all E0 E1 E2 E3]
                  rfl
end Go.Proofs.Ytdfkcijholopoaa.Vm
