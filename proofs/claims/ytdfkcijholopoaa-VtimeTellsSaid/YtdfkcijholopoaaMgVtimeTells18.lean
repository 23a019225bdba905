/- What the proofs stand on, in one text: Qk, OpenT, OpenW. -/
import Derived.Test.YtdfkcijholopoaaMgVtimeTells15
import Derived.Test.YtdfkcijholopoaaMg13
namespace Go.Proofs.Ytdfkcijholopoaa.Vm
open Go Go.RowKit
set_option maxRecDepth 10000
set_option linter.unusedSimpArgs false
set_option linter.unusedVariables false

theorem p19q (R : List Rn) (rcap : Nat) (hRl : R.length < 2 ^ 63) : RO 19 [.slice none 0 0, .slice (some ⟨0, 0, none⟩) R.length rcap] [(0, rws rc R)] (.bool true) := by
  refine ro_of _ 1 Try.func19 rfl Try.ntmps19 (by kernel_rfl) (by simp) rfl rfl (by simp) (by simp [rcs_plain]) ?_
  refine vc_seq ?_
  refine vc_go (by kernel_rfl) fun K hK => hK _ _ _ ?_
  clear hK K
  refine vc_seq ?_
  refine vc_seq ?_
  refine vc_reg (by kernel_rfl) fun K hK => ?_
  refine run_call (p38) rfl rfl rfl rfl ?_
  refine run_end (z := false) fun K' hK' => hK' _ _ _ (hK _ _ _ ?_)
  clear hK' K' hK K
  refine vc_cond (t := false) rfl (fun h => by cases h) (fun _ => ?_)
  refine vc_skip ?_
  refine vc_seq ?_
  refine vc_seq ?_
  refine vc_go (by kernel_rfl) fun K hK => hK _ _ _ ?_
  clear hK K
  refine vc_block ?_
  refine vc_rounds 1 ?_
  refine vc_seq ?_
  refine vc_go (by kernel_rfl) fun K hK => hK _ _ _ ?_
  clear hK K
  refine vc_seq ?_
  refine vc_cond (t := false) rfl (fun h => by cases h) (fun _ => ?_)
  refine vc_exit ?_
  refine vc_seq ?_
  refine vc_seq ?_
  refine vc_go (by kernel_rfl) fun K hK => hK _ _ _ ?_
  clear hK K
  refine vc_block ?_
  refine vc_loopF (fun k s => ∃ (j : Nat), k = R.length - j ∧ j ≤ R.length ∧ s = can [(4, .bool false), (145, .slice (some ⟨0, 0, none⟩) R.length rcap), (146, .int .i64 (R.length : Int)), (147, .int .i64 ((j : Nat) : Int))] [(0, .cells (rws rc R) 0 false)] 1) R.length ?_ ?_
  · exact ⟨_, fg_focus [(4, .bool false), (145, .slice (some ⟨0, 0, none⟩) R.length rcap), (146, .int .i64 (R.length : Int)), (147, .int .i64 ((0 : Nat) : Int))] [(0, .cells (rws rc R) 0 false)] 1 (by decide) ⟨rfl, rfl, rfl, rfl, trivial⟩ ⟨sb rfl, trivial⟩ rfl (bdH_c (by decide) (rcs_plain R) rfl), 0, rfl, Nat.zero_le _, rfl⟩
  · rintro k2 s ⟨j, hk2, hj, rfl⟩
    refine vc_seq ?_
    refine vc_go (by kernel_rfl) fun K hK => hK _ _ _ ?_
    clear hK K
    refine vc_seq ?_
    refine vc_cond rfl (fun c3 => ?_) (fun c3 => ?_)
    · -- cond 2 t148 true
      refine vc_skip ?_
      refine vc_seq ?_
      refine vc_block ?_
      refine vc_seq ?_
      have hltr := len_le c3
      obtain ⟨r, hr⟩ : ∃ r, R[j]? = some r := ⟨R[j], List.getElem?_eq_getElem hltr⟩
      refine vc_reg (by kernel_rfl) fun K hK => ?_
      refine run_n (z := false) 1 (fun K' hK' => hK' _ _ _ ?_) (by decide)
      clear hK' K'
      refine run_op (vex_ixs (j := j) rfl rfl rfl hltr rfl rfl) rfl ?_
      refine run_rd (vex_ldr rc_len (j := 0) (i := j) (d := rc r) rfl (Nat.zero_add _) rfl (rws_win rc R) rfl hr (by decide) rfl) rfl ?_
      refine run_end (z := false) fun K' hK' => hK' _ _ _ (hK _ _ _ ?_)
      clear hK' K' hK K
      refine vc_seq ?_
      refine vc_seq ?_
      refine vc_go (by kernel_rfl) fun K hK => hK _ _ _ ?_
      clear hK K
      refine vc_cond rfl (fun h12 => ?_) (fun h12 => ?_)
      · -- cond 3 t153 true
        refine vc_exit ?_
        refine vc_seq ?_
        refine vc_go (by kernel_rfl) fun K hK => hK _ _ _ ?_
        clear hK K
        exact vc_ret ⟨.inr rfl, rfl⟩
      · -- cond 3 t153 false
        refine vc_skip ?_
        refine vc_seq ?_
        have h76 := p76 r
        cases hk : okR r <;> rw [hk] at h76
        · have h75 := p75n hk
          refine vc_reg (by kernel_rfl) fun K hK => ?_
          refine run_n (z := false) 1 (fun K' hK' => hK' _ _ _ ?_) (by decide)
          clear hK' K'
          refine run_call (h75) rfl rfl rfl rfl ?_
          refine run_end (z := false) fun K' hK' => hK' _ _ _ (hK _ _ _ ?_)
          clear hK' K' hK K
          refine vc_seq ?_
          refine vc_reg (by kernel_rfl) fun K hK => ?_
          refine run_n (z := false) 3 (fun K' hK' => hK' _ _ _ ?_) (by decide)
          clear hK' K'
          refine run_call (h76) rfl rfl rfl rfl ?_
          refine run_n (z := false) 2 (fun K' hK' => hK' _ _ _ ?_) (by decide)
          clear hK' K'
          refine vgo_known 161 (b := false) (rfl) ?_
          refine run_n (z := false) 3 (fun K' hK' => hK' _ _ _ ?_) (by decide)
          clear hK' K'
          refine vgo_known 164 (b := true) (rfl) ?_
          refine run_end (z := false) fun K' hK' => hK' _ _ _ (hK _ _ _ ?_)
          clear hK' K' hK K
          refine vc_cond (t := false) rfl (fun h => by cases h) (fun _ => ?_)
          refine vc_skip ?_
          refine vc_go (by kernel_rfl) fun K hK => hK _ _ _ ?_
          clear hK K
          exact ⟨_, fg_focus [(4, .bool false), (145, .slice (some ⟨0, 0, none⟩) R.length rcap), (146, .int .i64 (R.length : Int)), (147, .int .i64 ((j + 1 : Nat) : Int))] [(0, .cells (rws rc R) 0 false)] 1 (by decide) ⟨rfl, rfl, rfl, ii (wrapI (by omega) (by omega)), trivial⟩ ⟨sb rfl, trivial⟩ rfl (bdH_c (by decide) (rcs_plain R) rfl), R.length - (j + 1), by omega, j + 1, rfl, hltr, rfl⟩
        · have h75 := p75y hk
          refine vc_reg (by kernel_rfl) fun K hK => ?_
          refine run_n (z := false) 1 (fun K' hK' => hK' _ _ _ ?_) (by decide)
          clear hK' K'
          refine run_call (h75) rfl rfl rfl rfl ?_
          refine run_end (z := false) fun K' hK' => hK' _ _ _ (hK _ _ _ ?_)
          clear hK' K' hK K
          refine vc_seq ?_
          refine vc_reg (by kernel_rfl) fun K hK => ?_
          refine run_n (z := false) 3 (fun K' hK' => hK' _ _ _ ?_) (by decide)
          clear hK' K'
          refine run_call (h76) rfl rfl rfl rfl ?_
          refine run_n (z := false) 2 (fun K' hK' => hK' _ _ _ ?_) (by decide)
          clear hK' K'
          refine vgo_known 161 (b := false) (rfl) ?_
          refine run_n (z := false) 3 (fun K' hK' => hK' _ _ _ ?_) (by decide)
          clear hK' K'
          refine vgo_known 164 (b := false) (rfl) ?_
          refine run_end (z := false) fun K' hK' => hK' _ _ _ (hK _ _ _ ?_)
          clear hK' K' hK K
          refine vc_cond (t := false) rfl (fun h => by cases h) (fun _ => ?_)
          refine vc_skip ?_
          refine vc_go (by kernel_rfl) fun K hK => hK _ _ _ ?_
          clear hK K
          exact ⟨_, fg_focus [(4, .bool false), (145, .slice (some ⟨0, 0, none⟩) R.length rcap), (146, .int .i64 (R.length : Int)), (147, .int .i64 ((j + 1 : Nat) : Int))] [(0, .cells (rws rc R) 0 false)] 1 (by decide) ⟨rfl, rfl, rfl, ii (wrapI (by omega) (by omega)), trivial⟩ ⟨sb rfl, trivial⟩ rfl (bdH_c (by decide) (rcs_plain R) rfl), R.length - (j + 1), by omega, j + 1, rfl, hltr, rfl⟩
    · -- cond 2 t148 false
      refine vc_exit ?_
      refine vc_seq ?_
      refine vc_go (by kernel_rfl) fun K hK => hK _ _ _ ?_
      clear hK K
      exact vc_ret ⟨.inr rfl, rfl⟩

theorem p19qr : Pure 19 [.slice none 0 0, .slice none 0 0] (.bool true) := by
  refine pure_of Try.func19 rfl Try.ntmps19 (by kernel_rfl) rfl (by simp) rfl ?_
  refine vc_seq ?_
  refine vc_go (by kernel_rfl) fun K hK => hK _ _ _ ?_
  clear hK K
  refine vc_seq ?_
  refine vc_seq ?_
  refine vc_reg (by kernel_rfl) fun K hK => ?_
  refine run_call (p38) rfl rfl rfl rfl ?_
  refine run_end (z := false) fun K' hK' => hK' _ _ _ (hK _ _ _ ?_)
  clear hK' K' hK K
  refine vc_cond (t := false) rfl (fun h => by cases h) (fun _ => ?_)
  refine vc_skip ?_
  refine vc_seq ?_
  refine vc_seq ?_
  refine vc_go (by kernel_rfl) fun K hK => hK _ _ _ ?_
  clear hK K
  refine vc_block ?_
  refine vc_rounds 1 ?_
  refine vc_seq ?_
  refine vc_go (by kernel_rfl) fun K hK => hK _ _ _ ?_
  clear hK K
  refine vc_seq ?_
  refine vc_cond (t := false) rfl (fun h => by cases h) (fun _ => ?_)
  refine vc_exit ?_
  refine vc_seq ?_
  refine vc_seq ?_
  refine vc_go (by kernel_rfl) fun K hK => hK _ _ _ ?_
  clear hK K
  refine vc_block ?_
  refine vc_rounds 1 ?_
  refine vc_seq ?_
  refine vc_go (by kernel_rfl) fun K hK => hK _ _ _ ?_
  clear hK K
  refine vc_seq ?_
  refine vc_cond (t := false) rfl (fun h => by cases h) (fun _ => ?_)
  refine vc_exit ?_
  refine vc_seq ?_
  refine vc_go (by kernel_rfl) fun K hK => hK _ _ _ ?_
  clear hK K
  exact vc_ret ⟨.inr rfl, rfl⟩
end Go.Proofs.Ytdfkcijholopoaa.Vm
namespace Go.Proofs.Ytdfkcijholopoaa
open Go.ChangeShapes Go.WideShapes Go.ChangeAt Go.RowKit Go.Joins
open Vm
set_option maxRecDepth 100000
set_option linter.unusedSimpArgs false

theorem rc_real {g : FuncId} {vs vs' : List Value} {hp : List (Nat × List Value)} {v : Value} {W : World} (hro : RC g vs hp v) (F : Nat → Option (Nat × Nat)) (hrel : RelL F vs vs') (hnd : (hp.map (·.1)).Nodup)
    (hreal : ∀ x ∈ hp, ∃ b o cur tt fz, F x.1 = some (b, o) ∧ W.heap[b]? = some (.cells cur tt fz) ∧ ∀ (i : Nat) (v : Value), x.2[i]? = some v → ∃ v', cur[o + i]? = some v' ∧ Rel F v v') :
    Calls Try.prog g vs'.toArray W (fun e w' => e = .returned v ∧ Below W.heap.size W w') := by
  refine hro.calls (fun r => W.heap.size ≤ r) F (updH (fun _ => none) (roB hp)) W (fun k => (k, 0)) vs' (fun x hx => ?_) ⟨fun m b hm => ?_, fun m m' b b' r o r' o' hm _ _ hown => ?_, fun r hr => hr⟩ (by rw [renL_id]; exact hrel)
  · exact ⟨_, _, _, roB_at hnd hx, fun i v hv => by rw [Nat.zero_add, renV_id]; exact hv⟩
  · obtain ⟨x, hx, rfl, rfl⟩ := roB_get hm
    obtain ⟨b, o, cur, tt, fz, h1, h2, h3⟩ := hreal x hx
    exact ⟨b, o, h1, ⟨cur, tt, fz, h2, fun i v hv => h3 i v hv⟩, fun h => by cases h⟩
  · obtain ⟨x, hx, rfl, rfl⟩ := roB_get hm
    cases hown
end Go.Proofs.Ytdfkcijholopoaa
namespace Go.Proofs.Ytdfkcijholopoaa
open Go.ChangeShapes Go.WideShapes Go.ChangeAt Go.RowKit Go.Joins
open Vm
set_option maxRecDepth 100000
set_option linter.unusedSimpArgs false

/-- An address whose cell is there. -/
theorem cell_row {W : World} {a : Addr} {v : Value} (h : W.cell? a = some v) : a.spot = none ∧ ∃ cur tt fz, W.heap[a.block]? = some (.cells cur tt fz) := by
  unfold World.cell? at h
  split at h
  · rename_i c t fz hb
    split at h
    · cases h
    · rename_i hs
      exact ⟨by simpa using hs, _, _, _, hb⟩
  · cases h
theorem addr_zero (a : Addr) (n : Nat) (h : n = 0) : a.add n = a := by subst h; rfl

/-- A slice of elements that lies in another row: nil; without room; or behind a plain address in a row. -/
theorem open_rows_in {α : Type} [Inhabited α] {f : α → List Value} {q : α → Prop} {sz : Nat} (hf : ∀ a, (f a).length = sz) (h0 : 0 < sz) {H : Type} {enc : TypeId × Value → H} {W : World} {base : Nat} {held : Bool} {fuel : Nat} {t e : TypeId} {c : Value} {y : DataW H × List MemPlace}
    (ht : Try.prog.underlying t = some (.slice e)) (hc : Try.prog.cellsOf e = sz) (hel : ∀ (fuel : Nat) (cs : List Value) (y : DataW H × List MemPlace), cs.length = sz → DataW.trod enc Try.prog W base (fun _ => true) held fuel e cs = some y → ∃ x : α, q x ∧ cs = f x)
    (h : DataW.trod enc Try.prog W base (fun _ => true) held fuel t [c] = some y) :
    c = .slice none 0 0 ∨ (∃ a, c = .slice (some a) 0 0) ∨ ∃ (b o cap : Nat) (l : List α) (cur : Array Value) (tt : TypeId) (fz : Nat × Nat), c = .slice (some ⟨b, o, none⟩) l.length cap ∧ l.length ≤ cap ∧ cap ≤ maxLen ∧ (∀ x ∈ l, q x) ∧ W.heap[b]? = some (.cells cur tt fz) ∧ ∀ (i : Nat) (v : Value), (rws f l)[i]? = some v → cur[o + i]? = some v := by
  rcases Go.Deep.open_slice ht h with ⟨h1, _⟩ | ⟨a, len, cap, m, n, D, Pl, h1, _, hle, hcap, hm, _, hi⟩
  · simp only [List.cons.injEq, and_true] at h1
    exact .inl h1
  · simp only [List.cons.injEq, and_true] at h1
    subst h1
    simp only [if_true] at hm
    subst hm
    by_cases hz : m = 0
    · subst hz
      obtain rfl : len = 0 := by omega
      exact .inr (.inl ⟨a, rfl⟩)
    · right; right
      obtain ⟨cs0, hcs0, htr0⟩ := hi 0 (by omega)
      rw [hc] at hcs0
      obtain ⟨_, hl0, hat0⟩ := World.cells?_some hcs0
      have h00 := hat0 0 h0
      rw [addr_zero a (0 * sz) (Nat.zero_mul _), addr_zero a 0 rfl] at h00
      have hlt0 : 0 < cs0.length := by rw [hl0]; exact h0
      rw [List.getElem?_eq_getElem hlt0] at h00
      obtain ⟨hsp, cur, tt, fz, hb⟩ := cell_row h00
      obtain ⟨b, o, sp⟩ := a
      simp only at hsp hb
      subst hsp
      have hex : ∀ i, i < len → ∃ x : α, q x ∧ ∀ j v, (f x)[j]? = some v → cur[o + (i * sz + j)]? = some v := by
        intro i hil
        obtain ⟨cs', hcs, htr⟩ := hi i (by omega)
        rw [hc] at hcs
        obtain ⟨_, hl3, hat⟩ := World.cells?_some hcs
        obtain ⟨x, hx, rfl⟩ := hel _ _ _ hl3 htr
        refine ⟨x, hx, fun j v hj => ?_⟩
        have hj3 : j < sz := by rw [← hf x]; exact (List.getElem?_eq_some_iff.1 hj).1
        have h2 := hat j hj3
        rw [hj, addr_add, addr_add, Nat.add_assoc, cell_of_row W b _ cur tt fz hb] at h2
        exact h2
      obtain ⟨F, hF⟩ := Go.Deep.choose_lt hex
      refine ⟨b, o, m, (List.range len).map F, cur, tt, fz, by simp, by simpa using hle, hcap, fun x hx => ?_, hb, fun i v hv => ?_⟩
      · obtain ⟨i, hi', rfl⟩ := List.mem_map.1 hx
        exact (hF i (List.mem_range.1 hi')).1
      · obtain ⟨x, h1, h2⟩ := rws_index hf h0 hv
        simp only [List.getElem?_map] at h1
        cases hr : (List.range len)[i / sz]? with
        | none => rw [hr] at h1; cases h1
        | some k =>
          rw [hr] at h1
          cases h1
          have hk : i / sz < len := by simpa using (List.getElem?_eq_some_iff.1 hr).1
          rw [List.getElem?_range hk] at hr
          cases hr
          have := (hF (i / sz) hk).2 (i % sz) v h2
          rwa [Nat.mul_comm, Nat.div_add_mod] at this

/-- A queue of a row that came in: its kind, its runners, its room, where they lie. -/
structure Qe where
  nil : Bool
  l : List Rn
  c : Nat
  b : Nat × Nat
  deriving Inhabited
structure QGood (W : World) (x : Qe) : Prop where
  none : x.nil = true → x.l = [] ∧ x.c ≤ 1
  room : x.nil = false → x.l.length ≤ x.c
  ok : ∀ r ∈ x.l, okRn r
  blk : ∃ cur tt fz, W.heap[x.b.1]? = some (.cells cur tt fz) ∧ ∀ (i : Nat) (v : Value), (rws rc x.l)[i]? = some v → cur[x.b.2 + i]? = some v

theorem open_queues {H : Type} {enc : TypeId × Value → H} {W : World} {base0 base : Nat} {held : Bool} {r : Reach} {v : Value} {d : DataW H} {p : List MemPlace}
    (hv : Value.okWide Try.prog W r base0 110 v) (h : DataW.Trod enc Try.prog W base (fun _ => true) held 110 v d p) :
    v = .slice none 0 0 ∨ ∃ (b o len cap : Nat) (cur : Array Value) (tt : TypeId) (fz : Nat × Nat) (E : Nat → Qe), v = .slice (some ⟨b, o, none⟩) len cap ∧ W.heap[b]? = some (.cells cur tt fz) ∧ (∀ i, QGood W (E i)) ∧
      ∀ i, i < len → ∃ c, cur[o + i]? = some c ∧ ∀ (ρ : Nat → Option (Nat × Nat)) (m : Nat), ρ m = some (E i).b → Rel ρ (idq (E i).nil (E i).l m (E i).c) c := by
  rcases okWide_slice_at Try.underlying110 hv with rfl | ⟨b, o, len, cap, cur, tt, fz, rfl, hb⟩
  · exact .inl rfl
  right
  obtain ⟨fuel, hfu⟩ := h
  rcases Go.Deep.open_slice Try.underlying110 hfu with ⟨h1, _⟩ | ⟨a, len', cap', m, n, D, Pl, h1, _, hle, hcap, hm, _, hi⟩
  · simp [Value.cells] at h1
  · simp only [Value.cells, List.cons.injEq, Value.slice.injEq, and_true, Option.some.injEq] at h1
    obtain ⟨rfl, rfl, rfl⟩ := h1
    simp only [if_true] at hm
    subst hm
    have hex : ∀ i, i < len → ∃ x : Qe, QGood W x ∧ ∃ c, cur[o + i]? = some c ∧ ∀ (ρ : Nat → Option (Nat × Nat)) (m : Nat), ρ m = some x.b → Rel ρ (idq x.nil x.l m x.c) c := by
      intro i hil
      obtain ⟨cs', hcs, htr⟩ := hi i (by omega)
      rw [cells55] at hcs
      obtain ⟨_, hl3, hat⟩ := World.cells?_some hcs
      match cs', hl3 with
      | [c], _ =>
        have h2 := hat 0 (by decide)
        rw [addr_zero _ 0 rfl, addr_add, Nat.mul_one, cell_of_row W b _ cur tt fz hb] at h2
        simp only [List.getElem?_cons_zero] at h2
        obtain ⟨y0, k, _, _, hy⟩ := trod_struct1 Try.underlying55 htr
        have hy' : DataW.trod enc Try.prog W base (fun _ => true) held k 53 [c] = some y0 := by simpa [cells53] using hy
        rcases open_rows_in (q := okRn) (f := rc) (sz := 5) (fun a => rc_len a) (by decide) Try.underlying53 cells67 (fun _ _ _ => rn_cells) hy' with rfl | ⟨a, rfl⟩ | ⟨b2, o2, cap2, l, cur2, tt2, fz2, rfl, g1, g2, g3, g4, g5⟩
        · exact ⟨⟨true, [], 0, (b, o)⟩, ⟨fun _ => ⟨rfl, Nat.le_of_ble_eq_true rfl⟩, fun h => (by cases h), fun r hr => (by cases hr), cur, tt, fz, hb, fun i v hv => by simp [rws] at hv⟩, _, h2, fun ρ m hm => .plain rfl⟩
        · exact ⟨⟨true, [], 1, (b, o)⟩, ⟨fun _ => ⟨rfl, Nat.le_of_ble_eq_true rfl⟩, fun h => (by cases h), fun r hr => (by cases hr), cur, tt, fz, hb, fun i v hv => by simp [rws] at hv⟩, _, h2, fun ρ m hm => .wild⟩
        · exact ⟨⟨false, l, cap2, (b2, o2)⟩, ⟨fun h => (by cases h), fun _ => g1, g3, cur2, tt2, fz2, g4, g5⟩, _, h2, fun ρ m hm => rel_slice hm⟩
    obtain ⟨F, hF⟩ := Go.Deep.choose_lt hex
    refine ⟨b, o, len, m, cur, tt, fz, fun i => if i < len then F i else ⟨true, [], 0, (b, o)⟩, rfl, hb, fun i => ?_, fun i hil => ?_⟩
    · by_cases h : i < len
      · simp only [if_pos h]
        exact (hF i h).1
      · simp only [if_neg h]
        exact ⟨fun _ => ⟨rfl, Nat.le_of_ble_eq_true rfl⟩, fun h => (by cases h), fun r hr => (by cases hr), cur, tt, fz, hb, fun i v hv => by simp [rws] at hv⟩
    · simp only [if_pos hil]
      exact (hF i hil).2
/-- The blocks that the walk of a row of queues names, where they really are. -/
def placeF (x y : Nat × Nat) (E : Nat → Qe) (k : Nat) : Option (Nat × Nat) := if k = 0 then some x else if k = 10 then some y else some (E (k - 1)).b
theorem row_real {W : World} {b o len : Nat} {cur : Array Value} {tt : TypeId} {fz : Nat × Nat} {E : Nat → Qe} (hb : W.heap[b]? = some (.cells cur tt fz)) (hE : ∀ i, QGood W (E i))
    (hcell : ∀ i, i < len → ∃ c, cur[o + i]? = some c ∧ ∀ (ρ : Nat → Option (Nat × Nat)) (m : Nat), ρ m = some (E i).b → Rel ρ (idq (E i).nil (E i).l m (E i).c) c)
    {R : List Rn} {b1 o1 : Nat} {cur1 : Array Value} {tt1 : TypeId} {fz1 : Nat × Nat} (hb1 : W.heap[b1]? = some (.cells cur1 tt1 fz1)) (hc1 : ∀ (i : Nat) (v : Value), (rws rc R)[i]? = some v → cur1[o1 + i]? = some v) :
    ∀ x ∈ [(0, rws (cq (fun i => (E i).nil) (fun i => (E i).l) (fun i => (E i).c)) (List.range (min len 9))), (1, rws rc (E 0).l), (2, rws rc (E 1).l), (3, rws rc (E 2).l), (4, rws rc (E 3).l), (5, rws rc (E 4).l), (6, rws rc (E 5).l), (7, rws rc (E 6).l), (8, rws rc (E 7).l), (9, rws rc (E 8).l), (10, rws rc R)],
      ∃ b2 o2 cur tt fz, placeF (b, o) (b1, o1) E x.1 = some (b2, o2) ∧ W.heap[b2]? = some (.cells cur tt fz) ∧ ∀ (i : Nat) (v : Value), x.2[i]? = some v → ∃ v', cur[o2 + i]? = some v' ∧ Rel (placeF (b, o) (b1, o1) E) v v' := by
  have hone : ∀ i, i < 9 → ∃ b2 o2 cur tt fz, placeF (b, o) (b1, o1) E (i + 1) = some (b2, o2) ∧ W.heap[b2]? = some (.cells cur tt fz) ∧ ∀ (j : Nat) (v : Value), (rws rc (E i).l)[j]? = some v → ∃ v', cur[o2 + j]? = some v' ∧ Rel (placeF (b, o) (b1, o1) E) v v' := by
    intro i hi
    obtain ⟨cur2, tt2, fz2, h1, h2⟩ := (hE i).blk
    refine ⟨_, _, cur2, tt2, fz2, by unfold placeF; rw [if_neg (by omega), if_neg (by omega)]; rfl, h1, fun j v hv => ⟨v, h2 j v hv, .plain ((plainL_iff _).1 (rcs_plain _) v (List.mem_of_getElem? hv))⟩⟩
  intro x hx
  simp only [List.mem_cons, List.not_mem_nil, or_false] at hx
  rcases hx with rfl | rfl | rfl | rfl | rfl | rfl | rfl | rfl | rfl | rfl | rfl
  · refine ⟨b, o, cur, tt, fz, rfl, hb, fun i v hv => ?_⟩
    obtain ⟨a, h1, h2⟩ := rws_index (cq_len _ _ _) (by decide) hv
    have hlt : i / 1 < min len 9 := by simpa using (List.getElem?_eq_some_iff.1 h1).1
    rw [List.getElem?_range hlt] at h1
    cases h1
    rw [Nat.mod_one] at h2
    simp only [cq, List.getElem?_cons_zero, Option.some.injEq] at h2
    subst h2
    rw [Nat.div_one] at hlt ⊢
    obtain ⟨c, h3, h4⟩ := hcell i (by omega)
    exact ⟨c, h3, h4 _ _ (by unfold placeF; rw [if_neg (by omega), if_neg (by omega)]; rfl)⟩
  · exact hone 0 (by decide)
  · exact hone 1 (by decide)
  · exact hone 2 (by decide)
  · exact hone 3 (by decide)
  · exact hone 4 (by decide)
  · exact hone 5 (by decide)
  · exact hone 6 (by decide)
  · exact hone 7 (by decide)
  · exact hone 8 (by decide)
  · exact ⟨b1, o1, cur1, tt1, fz1, rfl, hb1, fun j v hv => ⟨v, hc1 j v hv, .plain ((plainL_iff _).1 (rcs_plain _) v (List.mem_of_getElem? hv))⟩⟩
end Go.Proofs.Ytdfkcijholopoaa
