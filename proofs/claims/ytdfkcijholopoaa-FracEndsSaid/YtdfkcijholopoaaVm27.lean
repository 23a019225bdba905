/- append, over virtual states. -/
import Derived.Test.YtdfkcijholopoaaVm26
import Derived.Deep.AppendSrc
import Derived.Lib.AppendZerosOnto
namespace Go.Proofs.Ytdfkcijholopoaa.Vm
open Go Go.RowKit
set_option linter.unusedSimpArgs false

/-- An element's type: its zero cells, and that it is small. -/
def ElOk (e : Nat) (z : List Value) : Prop := ∃ (i : TypeInfo) (zv : Value), P.info? e = some i ∧ i.zero = some zv ∧ zv.cells = z.toArray ∧ i.size = z.length ∧ i.bytes ≤ 4096 ∧ plainL z = true ∧ 0 < z.length
theorem elOk_of {e : Nat} {z : List Value} {zv : Value} (h : (P.info? e).map (fun i => (i.zero, i.size, Nat.ble i.bytes 4096)) = some (some zv, z.length, true)) (hz : zv.cells = z.toArray) (hp : plainL z = true) (h0 : 0 < z.length) : ElOk e z := by
  unfold ElOk
  generalize P.info? e = q at h ⊢
  cases q with
  | none => cases h
  | some i =>
    injection h with h
    injection h with h1 h2
    injection h2 with h2 h3
    exact ⟨i, zv, rfl, h1, hz, h2, Nat.le_of_ble_eq_true h3, hp, h0⟩
theorem el67 : ElOk 67 [i0, i0, u0, u0, u0] := elOk_of (zv := .agg #[i0, i0, u0, u0, u0]) (by kernel_rfl) rfl rfl (by decide)
theorem el58 : ElOk 58 [u0, u0, u0] := elOk_of (zv := .agg #[u0, u0, u0]) (by kernel_rfl) rfl rfl (by decide)
theorem el3 : ElOk 3 [i0] := elOk_of (zv := i0) (by kernel_rfl) rfl rfl (by decide)

/-- A slice of n elements of sz cells each, whose cells are l. -/
inductive Seg (h : Nat → Option Blk) (sz : Nat) : Value → Nat → Nat → List Value → List Nat → Prop
  | nil : Seg h sz (.slice none 0 0) 0 0 [] []
  | emp {m k c : Nat} : Seg h sz (.slice (some ⟨m, k, none⟩) 0 c) 0 c [] []
  | cells {m k n c : Nat} {cs : List Value} {t : TypeId} {own : Bool} {l : List Value} : h m = some (.cells cs t own) → l.length = n * sz → (∀ (i : Nat) (v : Value), l[i]? = some v → cs[k + i]? = some v) → Seg h sz (.slice (some ⟨m, k, none⟩) n c) n c l [m]

theorem Seg.local {h h' : Nat → Option Blk} {sz : Nat} {v : Value} {n c : Nat} {l : List Value} {rd : List Nat} (hs : Seg h sz v n c l rd) (hh : ∀ k ∈ rd, h' k = h k) : Seg h' sz v n c l rd := by
  cases hs with
  | nil => exact .nil
  | emp => exact .emp
  | cells h1 h2 h3 => exact .cells ((hh _ (by simp)).trans h1) h2 h3

theorem Seg.real {h : Nat → Option Blk} {sz : Nat} {v : Value} {n c : Nat} {l : List Value} {rd : List Nat} (hs : Seg h sz v n c l rd) {M : Nat → Prop} {ρ : Nat → Option (Nat × Nat)} {w : World} (hH : RH M ρ h w) {v' : Value} (hr : Rel ρ v v') :
    ∃ (b : Option Addr) (l' : List Value), v' = .slice b n c ∧ RelL ρ l l' ∧ l'.length = n * sz ∧ ∀ w2 : World, w2.heap = w.heap → (Builtin.firstCells sz n v').run P w2 = .ok l'.toArray w2 := by
  cases hs with
  | nil => exact ⟨none, [], hr.eq_of_plain rfl, ⟨rfl, fun i v v' a => by simp at a⟩, by simp, fun w2 _ => by rw [hr.eq_of_plain rfl]; exact run_firstCells_none w2 _ _ _ _⟩
  | emp =>
    obtain ⟨r, o, h1, rfl⟩ := hr.slice_inv
    exact ⟨_, [], rfl, ⟨rfl, fun i v v' a => by simp at a⟩, by simp, fun w2 _ => run_firstCells_some w2 _ _ _ _ _ [] (by simp) (fun j v h => by simp at h)⟩
  | @cells m k n c cs t own l h1 h2 h3 =>
    obtain ⟨r, o, q1, rfl⟩ := hr.slice_inv
    obtain ⟨r', o', q2, q3, _⟩ := hH.blk m _ h1
    rw [q1] at q2
    cases q2
    have hex : ∃ d' : List Value, d'.length = l.length ∧ (∀ (j : Nat) (x' : Value), d'[j]? = some x' → w.cell? ⟨r, o + k + j, none⟩ = some x') ∧ RelL ρ l d' := by
      refine ⟨(List.range l.length).map fun j => (w.cell? ⟨r, o + k + j, none⟩).getD undef, by simp, ?_, by simp, ?_⟩
      · intro j x' hj
        simp only [List.getElem?_map] at hj
        cases hj' : (List.range l.length)[j]? with
        | none => rw [hj'] at hj; cases hj
        | some j' =>
          rw [hj'] at hj
          cases hj
          have hlt : j < l.length := by simpa using (List.getElem?_eq_some_iff.1 hj').1
          rw [List.getElem?_range hlt] at hj'
          cases hj'
          obtain ⟨c', t', fz, v', a1, a2, a3⟩ := q3.cell (h3 j l[j] (by simp [hlt]))
          have : w.cell? ⟨r, o + k + j, none⟩ = some v' := by rw [cell_of_row w r _ c' t' fz a1, Nat.add_assoc]; exact a2
          show w.cell? _ = some ((w.cell? _).getD undef)
          rw [this]
          rfl
      · intro j x x' hj hj'
        have hlt : j < l.length := (List.getElem?_eq_some_iff.1 hj).1
        simp only [List.getElem?_map, List.getElem?_range hlt, Option.map_some, Option.some.injEq] at hj'
        obtain ⟨c', t', fz, v', a1, a2, a3⟩ := q3.cell (h3 j x hj)
        have : w.cell? ⟨r, o + k + j, none⟩ = some v' := by rw [cell_of_row w r _ c' t' fz a1, Nat.add_assoc]; exact a2
        rw [this] at hj'
        cases hj'
        exact a3
    obtain ⟨d', e1, e2, e3⟩ := hex
    refine ⟨_, d', rfl, e3, by rw [e1, h2], fun w2 hw => ?_⟩
    refine run_firstCells_some w2 sz _ _ _ _ d' (by rw [e1, h2]) fun j v hv => ?_
    rw [addr_add]
    have := e2 j v hv
    unfold World.cell? at this ⊢
    rw [hw]
    exact this

theorem src_of {h : Nat → Option Blk} {sz : Nat} {v : Value} {n c : Nat} {l : List Value} {rd : List Nat} (hs : Seg h sz v n c l rd) (hone : l.all (·.oneCell') = true) {M : Nat → Prop} {ρ : Nat → Option (Nat × Nat)} {w : World} (hH : RH M ρ h w) {v' : Value} (hr : Rel ρ v v')
    {tx e : TypeId} (hk : P.underlying tx = some (.slice e)) : ∃ l', RelL ρ l l' ∧ Src P sz tx v' n l' w := by
  obtain ⟨b, l', rfl, h1, h2, h3⟩ := hs.real hH hr
  exact ⟨l', h1, .inl ⟨e, hk⟩, fun w' => rfl, h3 w rfl, h3 w.drew rfl, h2, h1.all_oneCell hone⟩

theorem run_append_room_row {P : Program} (w : World) (t tx ty e : TypeId) (i : TypeInfo) (ht : P.underlying t = some (.slice e)) (hi : P.info? e = some i) (b off sLen sCap : Nat) (x : Value) (n : Nat) (news : List Value) (hs : Src P i.size tx x n news w)
    (hroom : sLen + n ≤ sCap) (cur : Array Value) (tt : TypeId) (hg : w.heap[b]? = some (.cells cur tt (0, 0))) (hfit : off + sLen * i.size + news.length ≤ cur.size) :
    (Builtin.append_ #[t, tx] ty #[.slice (some ⟨b, off, none⟩) sLen sCap, x]).run P w = .ok (.slice (some ⟨b, off, none⟩) (sLen + n) sCap) (w.setRow b (cur.toList.take (off + sLen * i.size) ++ news ++ cur.toList.drop (off + sLen * i.size + news.length)).toArray) := by
  have hst := run_storeCells_at P b (off + sLen * i.size) tt news 0 cur w hg (by simpa using hfit) hs.one
  simp only [Nat.add_zero] at hst
  rcases hs.kind with ⟨e', hk⟩ | hk <;> simp [Builtin.append_, run_underlying ht, run_underlying hk, sizeOf, typeInfo, hi, hs.len, hroom, hs.cells, Addr.add_lit, hst]

theorem append_exec {o : Oper} {x y : Operand} {t tx : TypeId} {e : Operand → Value} (ho : o.op = .call { callee := .builtin .append, args := #[x, y], argTypes := #[t, tx] }) {w w' : World} {v : Value}
    (h : (Builtin.append_ #[t, tx] o.type #[e x, e y]).run P w = .ok v w') : (execOp e o).run P w = .ok (.value v) w' := by
  simp only [execOp, ho, resolve, invoke, builtin, Sem.run_bind, Sem.run_pure, Result.andThen_ok, List.map_toArray, List.map_cons, List.map_nil, h]

/-- There is room. -/
theorem sp_append_room {o : Oper} {m : Nat} {ev : Operand → Value} {h : Nat → Option Blk} {x y : Operand} {t tx e : Nat} {z : List Value} {b k sl sc : Nat} {cb : List Value} {te : TypeId} {n c : Nat} {news : List Value} {rd : List Nat}
    (ho : o.op = .call { callee := .builtin .append, args := #[x, y], argTypes := #[t, tx] }) (ht : Vm.sl t = some e) (htx : Vm.sl tx = some e) (he : ElOk e z)
    (hx : ev x = .slice (some ⟨b, k, none⟩) sl sc) (hb : h b = some (.cells cb te true)) (hy : Seg h z.length (ev y) n c news rd) (hone : news.all (·.oneCell') = true) (hroom : sl + n ≤ sc) (hfit : k + sl * z.length + news.length ≤ cb.length) :
    SpOk o m ev h (b :: rd) (fun v u => v = .slice (some ⟨b, k, none⟩) (sl + n) sc ∧ u = [(b, .cells (cb.take (k + sl * z.length) ++ news ++ cb.drop (k + sl * z.length + news.length)) te true)]) := by
  intro M ρ h' w a hh hev hH _
  obtain ⟨i, zv, hi, hz, hzc, hsz, _, _, _⟩ := he
  have hx1 := hev x (by rw [ho]; simp [Op.operands, Call.operands])
  have hy1 := hev y (by rw [ho]; simp [Op.operands, Call.operands])
  rw [hx] at hx1
  obtain ⟨r, of, q1, q2⟩ := hx1.slice_inv
  have hb' : h' b = some (.cells cb te true) := (hh b (by simp)).trans hb
  obtain ⟨r', of', q3, ⟨cur, q4, rfl, q5⟩, q6⟩ := hH.blk b _ hb'
  rw [q1] at q3
  cases q3
  rw [Nat.zero_add] at q2
  obtain ⟨l', e1, e2⟩ := src_of (hy.local (h' := h') fun j hj => hh j (by simp [hj])) hone hH hy1 (sl_ok htx)
  rw [← hsz] at e2
  have hrun := run_append_room_row w t tx o.type e i (sl_ok ht) hi r k sl sc (a.eval y) n l' e2 hroom cur te q4 (by rw [hsz, ← e1.1]; have := q5.1; simp at this; omega)
  rw [← q2] at hrun
  unfold Oper.wp
  rw [append_exec ho hrun]
  refine ⟨_, _, _, ρ, ⟨rfl, rfl⟩, rfl, Ext.refl _, by simpa using Rel.slice (ρ := ρ) (m := b) (k := k) (l := sl + n) (c := sc) q1, ?_, Kept.setRow (q6 rfl) _, fun x hx => (by simp at hx; exact .inr (by rw [hx, q1]; simp)), fun k hk _ => hk⟩
  · exact hH.setRow hb' rfl q1 ⟨_, setRow_heap w r cur _ te (0, 0) q4, rfl, by
      rw [hsz, ← e1.1]
      exact (((q5.take _).append e1).append (q5.drop _))⟩

/-- There is none: a new block. -/
theorem sp_append_grow {o : Oper} {m : Nat} {ev : Operand → Value} {h : Nat → Option Blk} {x y : Operand} {t tx e : Nat} {z : List Value} {sl sc : Nat} {olds : List Value} {rd0 : List Nat} {n c : Nat} {news : List Value} {rd : List Nat}
    (ho : o.op = .call { callee := .builtin .append, args := #[x, y], argTypes := #[t, tx] }) (ht : Vm.sl t = some e) (htx : Vm.sl tx = some e) (he : ElOk e z)
    (hx : Seg h z.length (ev x) sl sc olds rd0) (hy : Seg h z.length (ev y) n c news rd) (hone : news.all (·.oneCell') = true) (hroom : sc < sl + n) (hsm : sl + n ≤ 100000) :
    SpOk o m ev h (rd0 ++ rd) (fun v u => ∃ cap, sl + n ≤ cap ∧ v = .slice (some ⟨m, 0, none⟩) (sl + n) cap ∧ u = [(m, .cells (olds ++ news ++ zrow (cap - (sl + n)) z) e true)]) := by
  intro M ρ h' w a hh hev hH hm
  obtain ⟨i, zv, hi, hz, hzc, hsz, hby, hpl, h0⟩ := he
  have hx1 := hev x (by rw [ho]; simp [Op.operands, Call.operands])
  have hy1 := hev y (by rw [ho]; simp [Op.operands, Call.operands])
  obtain ⟨b, l0, d1, d2, d3, d4⟩ := (hx.local (h' := h') fun j hj => hh j (by simp [hj])).real hH hx1
  obtain ⟨l', e1, e2⟩ := src_of (hy.local (h' := h') fun j hj => hh j (by simp [hj])) hone hH hy1 (sl_ok htx)
  rw [← hsz] at e2 d4
  rw [d1] at d4
  have hbb : (sl + n) * i.bytes ≤ 140737488355328 := by
    have h1 : (sl + n) * i.bytes ≤ 100000 * 4096 := Nat.mul_le_mul hsm hby
    omega
  have hrun := run_append_grow_src (P := P) w t tx o.type e i zv (sl_ok ht) hi hz b sl sc l0 (d4 w.drew rfl) (a.eval y) n l' e2 hroom (by omega) (growslice_fits hroom hbb)
  rw [← d1] at hrun
  unfold Oper.wp
  rw [append_exec ho hrun]
  have hx' := Ext.upd hm (some (w.heap.size, 0))
  refine ⟨_, _, _, _, ⟨grownCap w (sl + n) sc e, grownCap_ge w _ _ _, rfl, rfl⟩, rfl, hx', ?_, ?_, ?_, fun x hx => (by simp at hx; exact .inl (by rw [hx])), fun k hk hne => by rw [upd_ne _ _ (by simpa using hne)]; exact hk⟩
  · have := Rel.slice (ρ := upd ρ m (some (w.heap.size, 0))) (m := m) (k := 0) (l := sl + n) (c := grownCap w (sl + n) sc e) (upd_same _ _ _)
    simpa using this
  · have hHd : RH M ρ h' w.drew := ⟨hH.blk, hH.inj, hH.new⟩
    refine hHd.alloc hm (b := .cells _ e true) ⟨_, rfl, rfl, ?_⟩
    have hz2 := zrow_rel (ρ := upd ρ m (some (w.heap.size, 0))) (grownCap w (sl + n) sc e - (sl + n)) z hpl h0
    have h3 := ((d2.ext hx').append (e1.ext hx')).append hz2
    simp only [Builtin.zeroCells, hzc, Array.toList_append, List.size_toArray] at h3 ⊢
    exact h3
  · have hK : Kept M w w.drew := ⟨rfl, rfl, rfl, Nat.le_refl _, fun _ _ => rfl⟩
    exact hK.trans (Kept.alloc (w := w.drew) hH.new _)

/-- append(s, make([]T, k)...), no room: the builtin is handed the number. -/
theorem sp_append_zeros {o : Oper} {m : Nat} {ev : Operand → Value} {h : Nat → Option Blk} {x y : Operand} {t e : Nat} {z : List Value} {sl sc : Nat} {olds : List Value} {rd0 : List Nat} {k : Nat} {kq : IntKind} {j : Int}
    (ho : o.op = .call { callee := .builtin .append, args := #[x, y], argTypes := #[t, 3] }) (ht : Vm.sl t = some e) (he : ElOk e z)
    (hx : Seg h z.length (ev x) sl sc olds rd0) (hy : ev y = .int kq j) (hj : j = (k : Int)) (hk : 0 < k) (hroom : sc < sl + k) (hsm : sl + k ≤ 100000) :
    SpOk o m ev h rd0 (fun v u => ∃ cap, sl + k ≤ cap ∧ v = .slice (some ⟨m, 0, none⟩) (sl + k) cap ∧ u = [(m, .cells (olds ++ zrow k z ++ zrow (cap - (sl + k)) z) e true)]) := by
  subst hj
  intro M ρ h' w a hh hev hH hm
  obtain ⟨i, zv, hi, hz, hzc, hsz, hby, hpl, h0⟩ := he
  have hx1 := hev x (by rw [ho]; simp [Op.operands, Call.operands])
  have hy1 := hev y (by rw [ho]; simp [Op.operands, Call.operands])
  rw [hy] at hy1
  obtain ⟨b, l0, d1, d2, d3, d4⟩ := (hx.local (h' := h') fun j hj => hh j hj).real hH hx1
  rw [← hsz] at d4
  rw [d1] at d4
  have hbb : (sl + k) * i.bytes ≤ 140737488355328 := by
    have h1 : (sl + k) * i.bytes ≤ 100000 * 4096 := Nat.mul_le_mul hsm hby
    omega
  have hkb : k * i.bytes ≤ 281474976710656 := by
    have h1 : k * i.bytes ≤ 100000 * 4096 := Nat.mul_le_mul (by omega) hby
    omega
  have hrun := Go.Lib.run_append_grow_zeros (P := P) w t 3 o.type e i zv kq _ (sl_ok ht) (ikind_ok (t := 3) rfl) hi hz b sl sc l0 (d4 w.drew rfl) k hk (by omega) hroom (by omega) hkb (growslice_fits hroom hbb)
  rw [← d1, ← hy1.int_inv] at hrun
  unfold Oper.wp
  rw [append_exec ho hrun]
  have hx' := Ext.upd hm (some (w.heap.size, 0))
  refine ⟨_, _, _, _, ⟨grownCap w (sl + k) sc e, grownCap_ge w _ _ _, rfl, rfl⟩, rfl, hx', ?_, ?_, ?_, fun x hx => (by simp at hx; exact .inl (by rw [hx])), fun k hk hne => by rw [upd_ne _ _ (by simpa using hne)]; exact hk⟩
  · have := Rel.slice (ρ := upd ρ m (some (w.heap.size, 0))) (m := m) (k := 0) (l := sl + k) (c := grownCap w (sl + k) sc e) (upd_same _ _ _)
    simpa using this
  · have hHd : RH M ρ h' w.drew := ⟨hH.blk, hH.inj, hH.new⟩
    refine hHd.alloc hm (b := .cells _ e true) ⟨_, rfl, rfl, ?_⟩
    have hz1 := zrow_rel (ρ := upd ρ m (some (w.heap.size, 0))) k z hpl h0
    have hz2 := zrow_rel (ρ := upd ρ m (some (w.heap.size, 0))) (grownCap w (sl + k) sc e - (sl + k)) z hpl h0
    have h3 := ((d2.ext hx').append hz1).append hz2
    simp only [Builtin.zeroCells, hzc, Array.toList_append, List.size_toArray] at h3 ⊢
    exact h3
  · have hK : Kept M w w.drew := ⟨rfl, rfl, rfl, Nat.le_refl _, fun _ _ => rfl⟩
    exact hK.trans (Kept.alloc (w := w.drew) hH.new _)

/-- Nothing is appended: the slice itself. -/
theorem sp_append_none {o : Oper} {m : Nat} {ev : Operand → Value} {h : Nat → Option Blk} {x y : Operand} {t tx e : Nat} {z : List Value} {b k sl sc : Nat} {c : Nat} {rd : List Nat}
    (ho : o.op = .call { callee := .builtin .append, args := #[x, y], argTypes := #[t, tx] }) (ht : Vm.sl t = some e) (htx : Vm.sl tx = some e) (he : ElOk e z)
    (hx : ev x = .slice (some ⟨b, k, none⟩) sl sc) (hle : sl ≤ sc) (hy : Seg h z.length (ev y) 0 c [] rd) :
    SpOk o m ev h rd (fun v u => v = .slice (some ⟨b, k, none⟩) sl sc ∧ u = []) := by
  intro M ρ h' w a hh hev hH _
  obtain ⟨i, zv, hi, hz, hzc, hsz, _, _, _⟩ := he
  have hx1 := hev x (by rw [ho]; simp [Op.operands, Call.operands])
  have hy1 := hev y (by rw [ho]; simp [Op.operands, Call.operands])
  rw [hx] at hx1
  obtain ⟨r, of, q1, q2⟩ := hx1.slice_inv
  obtain ⟨l', e1, e2⟩ := src_of (hy.local (h' := h') fun j hj => hh j hj) rfl hH hy1 (sl_ok htx)
  have hl' : l' = [] := List.eq_nil_of_length_eq_zero (by rw [← e1.1]; rfl)
  subst hl'
  rw [← hsz] at e2
  have hrun : (Builtin.append_ #[t, tx] o.type #[.slice (some ⟨r, of + k, none⟩) sl sc, a.eval y]).run P w = .ok (.slice (some ⟨r, of + k, none⟩) sl sc) w := by
    rcases e2.kind with ⟨e', hk⟩ | hk <;> simp [Builtin.append_, run_underlying (sl_ok ht), run_underlying hk, sizeOf, typeInfo, hi, e2.len, hle, e2.cells, storeCells]
  rw [← q2] at hrun
  unfold Oper.wp
  rw [append_exec ho hrun]
  exact ⟨_, _, [], ρ, ⟨rfl, rfl⟩, rfl, Ext.refl _, hx1, hH, Kept.refl _ _, fun x hx => (by cases hx), fun k hk _ => hk⟩

end Go.Proofs.Ytdfkcijholopoaa.Vm
