/- What the proofs stand on, in one text: OpenF, OpenG, OpenQ. -/
import Derived.Test.YtdfkcijholopoaaMgF
import Derived.Test.YtdfkcijholopoaaMg6
import Derived.Test.YtdfkcijholopoaaMg7
import Derived.Deep.Slices
import Derived.Deep.Fields
import Derived.Test.YtdfkcijholopoaaMg12
import Derived.Deep.Strs
import Derived.OpenShut
namespace Go.Proofs.Ytdfkcijholopoaa
open Go.ChangeShapes Go.WideShapes Go.ChangeAt Go.RowKit Go.Joins
open Vm
set_option maxRecDepth 100000

theorem cells58 : Try.prog.cellsOf 58 = 3 := by kernel_rfl
theorem cells22 : Try.prog.cellsOf 22 = 1 := by kernel_rfl
theorem open_frac {H : Type} {enc : TypeId × Value → H} {W : World} {base0 base : Nat} {spare : Nat → Bool} {held : Bool} {r : Reach} {v : Value} {d : DataW H} {p : List MemPlace}
    (hv : Value.okWide Try.prog W r base0 58 v) (h : DataW.Trod enc Try.prog W base spare held 58 v d p) : ∃ n w : Nat, n < 2 ^ 128 ∧ w < 2 ^ 64 ∧ v = fr n w := by
  obtain ⟨cs, rfl, hsz⟩ := okWide_struct Try.underlying58 hv
  rw [cells58] at hsz
  obtain ⟨l⟩ := cs
  match l, hsz with
  | [c0, c1, c2], _ =>
    obtain ⟨fuel, hf⟩ := h
    obtain ⟨y0, y1, m, _, _, hy0, hy1⟩ := trod_struct2 Try.underlying58 hf
    have h0 : DataW.trod enc Try.prog W base spare held m 24 [c0, c1] = some y0 := by simpa [Value.cells, cells24] using hy0
    have h1 : DataW.trod enc Try.prog W base spare held m 22 [c2] = some y1 := by simpa [Value.cells, cells22] using hy1
    obtain ⟨z0, z1, k, _, _, hz0, hz1⟩ := trod_struct2 Try.underlying24 h0
    have g0 : DataW.trod enc Try.prog W base spare held k 22 [c0] = some z0 := by simpa [cells22] using hz0
    have g1 : DataW.trod enc Try.prog W base spare held k 22 [c1] = some z1 := by simpa [cells22] using hz1
    obtain ⟨a, e0, _, wa⟩ := DataW.trod_int Try.underlying22 g0
    obtain ⟨b, e1, _, wb⟩ := DataW.trod_int Try.underlying22 g1
    obtain ⟨c, e2, _, wc⟩ := DataW.trod_int Try.underlying22 h1
    simp at e0 e1 e2
    subst e0 e1 e2
    obtain ⟨n, hn, rfl⟩ := u64_of_wf wa
    obtain ⟨k2, hk, rfl⟩ := u64_of_wf wb
    obtain ⟨w, hw, rfl⟩ := u64_of_wf wc
    refine ⟨n * 2 ^ 64 + k2, w, by omega, hw, ?_⟩
    unfold fr
    rw [show (n * 2 ^ 64 + k2) / 2 ^ 64 = n by omega, show (n * 2 ^ 64 + k2) % 2 ^ 64 = k2 by omega]
end Go.Proofs.Ytdfkcijholopoaa
namespace Go.Proofs.Ytdfkcijholopoaa
open Go.ChangeShapes Go.WideShapes Go.ChangeAt Go.RowKit Go.Joins
open Vm
set_option maxRecDepth 100000
set_option linter.unusedSimpArgs false

/-- A slice that came in: nil, or behind a plain address in a row. -/
theorem okWide_slice_at {P : Program} {w : World} {r : Reach} {base : Nat} {t e : TypeId} {v : Value} (ht : P.underlying t = some (.slice e)) (h : Value.okWide P w r base t v) :
    v = .slice none 0 0 ∨ ∃ b o len cap cur tt fz, v = .slice (some ⟨b, o, none⟩) len cap ∧ w.heap[b]? = some (.cells cur tt fz) := by
  unfold Value.okWide Cell.okWide Cell.ok at h
  rw [ht] at h
  cases v <;> simp only [reduceCtorEq, false_and, exists_false] at h <;> try exact h.elim
  rename_i a len cap
  cases a with
  | none =>
    split at h
    all_goals simp_all
  | some a =>
    right
    obtain ⟨_, _, _, hs, row, cells, hsh, _⟩ := h
    obtain ⟨b, o, sp⟩ := a
    simp only at hs
    subst hs
    unfold World.shape? at hsh
    cases hq : w.heap[b]? with
    | none => simp [hq] at hsh
    | some ob =>
      cases ob <;> simp [hq] at hsh
      exact ⟨b, o, len, cap, _, _, _, rfl, hq⟩

theorem rws_index {α : Type} {f : α → List Value} {sz : Nat} (hf : ∀ a, (f a).length = sz) (h0 : 0 < sz) : ∀ {l : List α} {i : Nat} {v : Value}, (rws f l)[i]? = some v → ∃ a, l[i / sz]? = some a ∧ (f a)[i % sz]? = some v
  | [], i, v, h => by simp [rws] at h
  | a :: l, i, v, h => by
    simp only [rws] at h
    by_cases hi : i < sz
    · rw [List.getElem?_append_left (by rw [hf]; exact hi)] at h
      exact ⟨a, by rw [Nat.div_eq_of_lt hi]; rfl, by rw [Nat.mod_eq_of_lt hi]; exact h⟩
    · rw [List.getElem?_append_right (by rw [hf]; omega), hf] at h
      obtain ⟨b, h1, h2⟩ := rws_index hf h0 h
      refine ⟨b, ?_, ?_⟩
      · rw [Nat.div_eq_sub_div h0 (by omega)]
        simpa using h1
      · rw [Nat.mod_eq_sub_mod (by omega)]; exact h2

theorem frac_cells {H : Type} {enc : TypeId × Value → H} {W : World} {base : Nat} {spare : Nat → Bool} {held : Bool} {fuel : Nat} {cs : List Value} {y : DataW H × List MemPlace} (hl : cs.length = 3) (h : DataW.trod enc Try.prog W base spare held fuel 58 cs = some y) :
    ∃ x : Nat × Nat, (x.1 < 2 ^ 128 ∧ x.2 < 2 ^ 64) ∧ cs = frp x := by
  match cs, hl with
  | [c0, c1, c2], _ =>
    obtain ⟨y0, y1, m, _, _, hy0, hy1⟩ := trod_struct2 Try.underlying58 h
    have h0 : DataW.trod enc Try.prog W base spare held m 24 [c0, c1] = some y0 := by simpa [Value.cells, cells24] using hy0
    have h1 : DataW.trod enc Try.prog W base spare held m 22 [c2] = some y1 := by simpa [Value.cells, cells22] using hy1
    obtain ⟨z0, z1, k, _, _, hz0, hz1⟩ := trod_struct2 Try.underlying24 h0
    have g0 : DataW.trod enc Try.prog W base spare held k 22 [c0] = some z0 := by simpa [cells22] using hz0
    have g1 : DataW.trod enc Try.prog W base spare held k 22 [c1] = some z1 := by simpa [cells22] using hz1
    obtain ⟨a, e0, _, wa⟩ := DataW.trod_int Try.underlying22 g0
    obtain ⟨b, e1, _, wb⟩ := DataW.trod_int Try.underlying22 g1
    obtain ⟨c, e2, _, wc⟩ := DataW.trod_int Try.underlying22 h1
    simp at e0 e1 e2
    subst e0 e1 e2
    obtain ⟨n, hn, rfl⟩ := u64_of_wf wa
    obtain ⟨k2, hk, rfl⟩ := u64_of_wf wb
    obtain ⟨w, hw, rfl⟩ := u64_of_wf wc
    refine ⟨(n * 2 ^ 64 + k2, w), ⟨by simp only; omega, hw⟩, ?_⟩
    unfold frp frc
    simp only
    rw [show (n * 2 ^ 64 + k2) / 2 ^ 64 = n by omega, show (n * 2 ^ 64 + k2) % 2 ^ 64 = k2 by omega]

theorem relL_nil {ρ : Nat → Option (Nat × Nat)} : RelL ρ [] [] := ⟨rfl, fun i v v' h => by simp at h⟩
theorem relL_cons {ρ : Nat → Option (Nat × Nat)} {v v' : Value} {l l' : List Value} (h : Rel ρ v v') (hl : RelL ρ l l') : RelL ρ (v :: l) (v' :: l') := by
  refine ⟨by simp [hl.1], fun i x x' h1 h2 => ?_⟩
  cases i with
  | zero => simp at h1 h2; subst h1 h2; exact h
  | succ i => exact hl.2 i x x' (by simpa using h1) (by simpa using h2)
theorem rel_slice {ρ : Nat → Option (Nat × Nat)} {m b o n c : Nat} (h : ρ m = some (b, o)) : Rel ρ (.slice (some ⟨m, 0, none⟩) n c) (.slice (some ⟨b, o, none⟩) n c) := by
  simpa using Rel.slice (k := 0) (l := n) (c := c) h
theorem rel_agg1 {ρ : Nat → Option (Nat × Nat)} {v v' : Value} (h : Rel ρ v v') : Rel ρ (.agg #[v]) (.agg #[v']) := by
  refine .agg rfl fun i x x' h1 h2 => ?_
  cases i with
  | zero => simp at h1 h2; subst h1 h2; exact h
  | succ i => simp at h1
theorem roB_at {hp : List (Nat × List Value)} {x : Nat × List Value} (hnd : (hp.map (·.1)).Nodup) (hx : x ∈ hp) : updH (fun _ => none) (roB hp) x.1 = some (.cells x.2 0 false) := by
  induction hp with
  | nil => cases hx
  | cons y hp ih =>
    simp only [List.map_cons, List.nodup_cons] at hnd
    simp only [roB, List.map_cons, updH]
    rcases List.mem_cons.1 hx with rfl | hx
    · exact upd_same _ _ _
    · rw [upd_ne _ _ fun e => hnd.1 (List.mem_map.2 ⟨x, hx, e⟩)]
      exact ih hnd.2 hx
/-- From the contract of a function that reads to its call on what came in. -/
theorem ro_real {g : FuncId} {vs vs' : List Value} {hp : List (Nat × List Value)} {v : Value} {W : World} (hro : RO g vs hp v) (F : Nat → Option (Nat × Nat)) (hrel : RelL F vs vs') (hnd : (hp.map (·.1)).Nodup)
    (hreal : ∀ x ∈ hp, plainL x.2 = true ∧ ∃ b o cur tt fz, F x.1 = some (b, o) ∧ W.heap[b]? = some (.cells cur tt fz) ∧ ∀ (i : Nat) (v : Value), x.2[i]? = some v → cur[o + i]? = some v) :
    Calls Try.prog g vs'.toArray W (fun e w' => e = .returned v ∧ Below W.heap.size W w') := by
  refine hro.calls (fun r => W.heap.size ≤ r) F (updH (fun _ => none) (roB hp)) W (fun k => (k, 0)) vs' (fun x hx => ?_) ⟨fun m b hm => ?_, fun m m' b b' r o r' o' hm _ _ hown => ?_, fun r hr => hr⟩ (by rw [renL_id]; exact hrel)
  · exact ⟨_, _, _, roB_at hnd hx, fun i v hv => by rw [Nat.zero_add]; exact hv⟩
  · obtain ⟨x, hx, rfl, rfl⟩ := roB_get hm
    obtain ⟨hp', b, o, cur, tt, fz, h1, h2, h3⟩ := hreal x hx
    exact ⟨b, o, h1, ⟨cur, tt, fz, h2, fun i v hv => ⟨v, h3 i v hv, .plain ((plainL_iff _).1 hp' v (List.mem_of_getElem? hv))⟩⟩, fun h => by cases h⟩
  · obtain ⟨x, hx, rfl, rfl⟩ := roB_get hm
    cases hown

/-- A slice of elements that are rows of cells. -/
theorem open_rows {α : Type} [Inhabited α] {f : α → List Value} {q : α → Prop} {sz : Nat} (hf : ∀ a, (f a).length = sz) (h0 : 0 < sz) {H : Type} {enc : TypeId × Value → H} {W : World} {base0 base : Nat} {spare : Nat → Bool} {held : Bool} {r : Reach} {t e : TypeId} {v : Value} {d : DataW H} {p : List MemPlace}
    (ht : Try.prog.underlying t = some (.slice e)) (hc : Try.prog.cellsOf e = sz) (hel : ∀ (fuel : Nat) (cs : List Value) (y : DataW H × List MemPlace), cs.length = sz → DataW.trod enc Try.prog W base spare held fuel e cs = some y → ∃ x : α, q x ∧ cs = f x)
    (hv : Value.okWide Try.prog W r base0 t v) (h : DataW.Trod enc Try.prog W base spare held t v d p) :
    v = .slice none 0 0 ∨ ∃ (b o cap : Nat) (l : List α) (cur : Array Value) (tt : TypeId) (fz : Nat × Nat), v = .slice (some ⟨b, o, none⟩) l.length cap ∧ l.length ≤ cap ∧ cap ≤ maxLen ∧ (∀ x ∈ l, q x) ∧ W.heap[b]? = some (.cells cur tt fz) ∧ ∀ (i : Nat) (v : Value), (rws f l)[i]? = some v → cur[o + i]? = some v := by
  rcases okWide_slice_at ht hv with rfl | ⟨b, o, len, cap, cur, tt, fz, rfl, hb⟩
  · exact .inl rfl
  right
  obtain ⟨fuel, hfu⟩ := h
  rcases Go.Deep.open_slice ht hfu with ⟨h1, _⟩ | ⟨a, len', cap', m, n, D, Pl, h1, _, hle, hcap, hm, _, hi⟩
  · simp [Value.cells] at h1
  · simp only [Value.cells, List.cons.injEq, Value.slice.injEq, and_true, Option.some.injEq] at h1
    obtain ⟨rfl, rfl, rfl⟩ := h1
    have hlm : len ≤ m := by rw [hm]; split <;> omega
    have hex : ∀ i, i < len → ∃ x : α, q x ∧ ∀ j v, (f x)[j]? = some v → cur[o + (i * sz + j)]? = some v := by
      intro i hil
      obtain ⟨cs', hcs, htr⟩ := hi i (by omega)
      rw [hc] at hcs
      obtain ⟨_, hl3, hat⟩ := World.cells?_some hcs
      obtain ⟨x, hx, rfl⟩ := hel _ _ _ hl3 htr
      refine ⟨x, hx, fun j v hj => ?_⟩
      have hj3 : j < sz := by rw [← hf x]; exact (List.getElem?_eq_some_iff.1 hj).1
      have h2 := hat j hj3
      rw [hj, addr_add, addr_add, Nat.add_assoc, cell_of_row W b _ cur tt fz hb] at h2
      exact h2
    obtain ⟨F, hF⟩ := Go.Deep.choose_lt hex
    refine ⟨b, o, cap, (List.range len).map F, cur, tt, fz, by simp, by simpa using hle, hcap, fun x hx => ?_, hb, fun i v hv => ?_⟩
    · obtain ⟨i, hi', rfl⟩ := List.mem_map.1 hx
      exact (hF i (List.mem_range.1 hi')).1
    · obtain ⟨x, h1, h2⟩ := rws_index hf h0 hv
      simp only [List.getElem?_map] at h1
      cases hr : (List.range len)[i / sz]? with
      | none => rw [hr] at h1; cases h1
      | some k =>
        rw [hr] at h1
        cases h1
        have hk : i / sz < len := by simpa using (List.getElem?_eq_some_iff.1 hr).1
        rw [List.getElem?_range hk] at hr
        cases hr
        have := (hF (i / sz) hk).2 (i % sz) v h2
        rwa [Nat.mul_comm, Nat.div_add_mod] at this
end Go.Proofs.Ytdfkcijholopoaa
namespace Go.Proofs.Ytdfkcijholopoaa
open Go.ChangeShapes Go.WideShapes Go.ChangeAt Go.RowKit Go.Joins
open Vm
set_option maxRecDepth 100000
set_option linter.unusedSimpArgs false

theorem cells3 : Try.prog.cellsOf 3 = 1 := by kernel_rfl
theorem cells67 : Try.prog.cellsOf 67 = 5 := by kernel_rfl
theorem cells55 : Try.prog.cellsOf 55 = 1 := by kernel_rfl
theorem cells53 : Try.prog.cellsOf 53 = 1 := by kernel_rfl
theorem cells101 : Try.prog.cellsOf 101 = 2 := by kernel_rfl

theorem i64_of_wf {a : Int} (h : (Lit.int .i64 a).wf = true) : i64r a := by
  have h3 : IntKind.i64.min ≤ a ∧ a ≤ IntKind.i64.max := by simpa [Lit.wf] using h
  have e1 : IntKind.i64.min = - 2 ^ 63 := rfl
  have e2 : IntKind.i64.max = 2 ^ 63 - 1 := rfl
  rw [e1, e2] at h3
  exact ⟨h3.1, by omega⟩
theorem open_i64 {H : Type} {enc : TypeId × Value → H} {W : World} {base0 base : Nat} {spare : Nat → Bool} {held : Bool} {r : Reach} {v : Value} {d : DataW H} {p : List MemPlace}
    (hv : Value.okWide Try.prog W r base0 3 v) (h : DataW.Trod enc Try.prog W base spare held 3 v d p) : ∃ n : Int, i64r n ∧ v = .int .i64 n := by
  obtain ⟨a, rfl, rfl, rfl, wa⟩ := open_int Try.underlying3 hv h
  exact ⟨a, i64_of_wf wa, rfl⟩
/-- What a runner of this machine is. -/
def okRn (r : Rn) : Prop := i64r r.id ∧ i64r r.each ∧ r.n < 2 ^ 128 ∧ r.w < 2 ^ 64
theorem rn_cells {H : Type} {enc : TypeId × Value → H} {W : World} {base : Nat} {spare : Nat → Bool} {held : Bool} {fuel : Nat} {cs : List Value} {y : DataW H × List MemPlace} (hl : cs.length = 5) (h : DataW.trod enc Try.prog W base spare held fuel 67 cs = some y) :
    ∃ x : Rn, okRn x ∧ cs = rc x := by
  match cs, hl with
  | [c0, c1, c2, c3, c4], _ =>
    obtain ⟨y0, y1, y2, m, _, _, hy0, hy1, hy2⟩ := Go.Deep.trod_struct3 Try.underlying67 h
    have h0 : DataW.trod enc Try.prog W base spare held m 3 [c0] = some y0 := by simpa [Value.cells, cells3] using hy0
    have h1 : DataW.trod enc Try.prog W base spare held m 3 [c1] = some y1 := by simpa [Value.cells, cells3] using hy1
    have h2 : DataW.trod enc Try.prog W base spare held m 58 [c2, c3, c4] = some y2 := by simpa [Value.cells, cells58] using hy2
    obtain ⟨a, e0, _, wa⟩ := DataW.trod_int Try.underlying3 h0
    obtain ⟨b, e1, _, wb⟩ := DataW.trod_int Try.underlying3 h1
    obtain ⟨x, ⟨hx1, hx2⟩, e2⟩ := frac_cells rfl h2
    simp at e0 e1
    subst e0 e1
    refine ⟨⟨a, b, x.1, x.2⟩, ⟨i64_of_wf wa, i64_of_wf wb, hx1, hx2⟩, ?_⟩
    show _ = _
    rw [show ∀ (p q : Value) (l : List Value), p :: q :: l = [p, q] ++ l from fun _ _ _ => rfl, e2]
    rfl
theorem open_rn {H : Type} {enc : TypeId × Value → H} {W : World} {base0 base : Nat} {spare : Nat → Bool} {held : Bool} {r : Reach} {v : Value} {d : DataW H} {p : List MemPlace}
    (hv : Value.okWide Try.prog W r base0 67 v) (h : DataW.Trod enc Try.prog W base spare held 67 v d p) : ∃ x : Rn, okRn x ∧ v = rv x := by
  obtain ⟨cs, rfl, hsz⟩ := okWide_struct Try.underlying67 hv
  rw [cells67] at hsz
  obtain ⟨fuel, hf⟩ := h
  obtain ⟨x, hx, e⟩ := rn_cells (by simpa [Value.cells] using hsz) hf
  refine ⟨x, hx, ?_⟩
  obtain ⟨l⟩ := cs
  simp [Value.cells] at e
  subst e
  rfl
theorem open_queue {H : Type} {enc : TypeId × Value → H} {W : World} {base0 base : Nat} {spare : Nat → Bool} {held : Bool} {r : Reach} {v : Value} {d : DataW H} {p : List MemPlace}
    (hv : Value.okWide Try.prog W r base0 55 v) (h : DataW.Trod enc Try.prog W base spare held 55 v d p) :
    v = qnil ∨ ∃ (b o cap : Nat) (l : List Rn) (cur : Array Value) (tt : TypeId) (fz : Nat × Nat), v = .agg #[.slice (some ⟨b, o, none⟩) l.length cap] ∧ l.length ≤ cap ∧ cap ≤ maxLen ∧ (∀ x ∈ l, okRn x) ∧ W.heap[b]? = some (.cells cur tt fz) ∧ ∀ (i : Nat) (v : Value), (rws rc l)[i]? = some v → cur[o + i]? = some v := by
  have hv1 := hv
  simp only [Value.okWide, Try.underlying55] at hv1
  obtain ⟨cs, rfl, hsz, ts, hts, _, hcell⟩ := hv1
  rw [cells55] at hsz
  rw [show Try.prog.cellTypes Try.prog.depth 55 = some [53] by kernel_rfl] at hts
  cases hts
  obtain ⟨l⟩ := cs
  match l, hsz with
  | [c], _ =>
    obtain ⟨u, hu, hc⟩ := hcell 0 c rfl
    simp only [List.length_singleton, Nat.mod_one, List.getElem?_cons_zero, Option.some.injEq] at hu
    subst hu
    have hv2 : Value.okWide Try.prog W r base0 53 c := by
      simp only [Value.okWide, Try.underlying53]
      exact hc
    obtain ⟨fuel, hf⟩ := h
    obtain ⟨y0, n, _, _, hy⟩ := trod_struct1 Try.underlying55 hf
    have hcc : c.cells = #[c] := by
      rcases okWide_slice_at Try.underlying53 hv2 with rfl | ⟨_, _, _, _, _, _, _, rfl, _⟩ <;> rfl
    have ht2 : DataW.Trod enc Try.prog W base spare held 53 c y0.1 y0.2 := ⟨n, by rw [hcc]; simpa [Value.cells, cells53] using hy⟩
    rcases open_rows (q := okRn) (f := rc) (sz := 5) (fun a => rc_len a) (by decide) Try.underlying53 cells67 (fun _ _ _ => rn_cells) hv2 ht2 with rfl | ⟨b, o, cap, l, cur, tt, fz, rfl, h1, h2, h3, h4, h5⟩
    · exact .inl rfl
    · exact .inr ⟨b, o, cap, l, cur, tt, fz, rfl, h1, h2, h3, h4, h5⟩
theorem wt_cells {H : Type} {enc : TypeId × Value → H} {W : World} {base : Nat} {spare : Nat → Bool} {held : Bool} {fuel : Nat} {cs : List Value} {y : DataW H × List MemPlace} (hl : cs.length = 2) (h : DataW.trod enc Try.prog W base spare held fuel 101 cs = some y) :
    ∃ (w : Nat) (m : Int), w < 2 ^ 64 ∧ i64r m ∧ cs = [u64 w, .int .i64 m] := by
  match cs, hl with
  | [c0, c1], _ =>
    obtain ⟨y0, y1, m, _, _, hy0, hy1⟩ := trod_struct2 Try.underlying101 h
    have h0 : DataW.trod enc Try.prog W base spare held m 22 [c0] = some y0 := by simpa [Value.cells, cells22] using hy0
    have h1 : DataW.trod enc Try.prog W base spare held m 3 [c1] = some y1 := by simpa [Value.cells, cells3] using hy1
    obtain ⟨a, e0, _, wa⟩ := DataW.trod_int Try.underlying22 h0
    obtain ⟨b, e1, _, wb⟩ := DataW.trod_int Try.underlying3 h1
    simp at e0 e1
    subst e0 e1
    obtain ⟨n, hn, rfl⟩ := u64_of_wf wa
    exact ⟨n, b, hn, i64_of_wf wb, rfl⟩
theorem open_wt {H : Type} {enc : TypeId × Value → H} {W : World} {base0 base : Nat} {spare : Nat → Bool} {held : Bool} {r : Reach} {v : Value} {d : DataW H} {p : List MemPlace}
    (hv : Value.okWide Try.prog W r base0 101 v) (h : DataW.Trod enc Try.prog W base spare held 101 v d p) : ∃ (w : Nat) (m : Int), w < 2 ^ 64 ∧ i64r m ∧ v = .agg #[u64 w, .int .i64 m] := by
  obtain ⟨cs, rfl, hsz⟩ := okWide_struct Try.underlying101 hv
  rw [cells101] at hsz
  obtain ⟨fuel, hf⟩ := h
  obtain ⟨w, m, hw, hm, e⟩ := wt_cells (by simpa [Value.cells] using hsz) hf
  refine ⟨w, m, hw, hm, ?_⟩
  obtain ⟨l⟩ := cs
  simp [Value.cells] at e
  subst e
  rfl
end Go.Proofs.Ytdfkcijholopoaa
