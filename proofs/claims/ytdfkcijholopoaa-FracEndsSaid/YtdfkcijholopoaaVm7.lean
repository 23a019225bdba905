/- 'vex' is true of the program's machine: the theorem. -/
import Derived.Test.YtdfkcijholopoaaVm6
namespace Go.Proofs.Ytdfkcijholopoaa.Vm
open Go
set_option linter.unusedSimpArgs false

section ops
variable {M : Nat → Prop} {ρ : Nat → Option (Nat × Nat)} {h : Nat → Option Blk} {w : World} {a : Act} {ev : Operand → Value}

theorem relA_map {xs : Array Operand} (hx : ∀ x ∈ xs, Rel ρ (ev x) (a.eval x)) : RelA ρ (xs.map ev) (xs.map a.eval) := by
  refine ⟨by simp, fun i v v' h1 h2 => ?_⟩
  simp only [Array.getElem?_map] at h1 h2
  cases hq : xs[i]? with
  | none => rw [hq] at h1; cases h1
  | some x =>
    rw [hq] at h1 h2
    cases h1; cases h2
    exact hx x (Array.mem_of_getElem? hq)

theorem vindex_sound {len sz k m : Nat} {n : Int} {v : Value} (hv : vindex len sz k m n = some v) : 0 ≤ n ∧ n < len ∧ v = .pointer (some ⟨m, k + n.toNat * sz, none⟩) := by
  unfold vindex at hv
  split at hv
  · rename_i hc; cases hv; exact ⟨hc.1, hc.2, rfl⟩
  · cases hv

set_option maxRecDepth 4000 in
theorem vex_sound {o : Oper} {ef : Ef} (hev : ∀ x ∈ o.op.operands, Rel ρ (ev x) (a.eval x)) (hH : RH M ρ h w) (hv : vex ev h o.op = some ef) : EfOk M ρ h o a w ef := by
  obtain ⟨dst, op, type, pos, after, guard⟩ := o
  simp only at hev hv
  unfold vex at hv
  split at hv
  -- move
  · cases hv
    exact ⟨_, rfl, hev _ (by simp [Op.operands])⟩
  -- assign
  · cases hv
    exact ⟨_, rfl, hev _ (by simp [Op.operands])⟩
  -- pick
  · rename_i c x y
    split at hv
    · rename_i t hc
      cases hv
      have h1 := hev c (by simp [Op.operands])
      rw [hc] at h1
      have h2 := h1.bool_inv
      refine ⟨if t = true then a.eval x else a.eval y, ?_, ?_⟩
      · simp only [execOp, Sem.run_bind, h2, asBool, Sem.run_pure, Result.andThen_ok]
      · cases t
        · exact hev y (by simp [Op.operands])
        · exact hev x (by simp [Op.operands])
    · cases hv
  -- alloc
  · rename_i t
    split at hv
    · rename_i ag z ht
      cases hv
      have hok := ty_ok ht
      obtain ⟨zv, h1, h2⟩ := hok.zero w
      refine ⟨rfl, .pointer (some ⟨w.heap.size, 0, none⟩), .cells z.toArray t, ?_, fun ρ' m he hm => ⟨?_, z.toArray, rfl, rfl, ?_⟩⟩
      · simp only [execOp, Instr.alloc, Sem.run_bind, h1, Result.andThen_ok, newVar, newRow, h2, run_newObj, Sem.run_pure]
        rfl
      · exact .ptr hm
      · simpa using RelL.refl_of_plain hok.pl
    · cases hv
  -- box
  · rename_i t x
    cases hv
    have h1 := hev x (by simp [Op.operands])
    refine ⟨rfl, .pointer (some ⟨w.heap.size, 0, none⟩), .cells (a.eval x).cells t, rfl, fun ρ' m he hm => ⟨.ptr hm, _, rfl, rfl, ?_⟩⟩
    exact (h1.cells.ext he).toL
  -- build
  · rename_i t parts
    split at hv
    · rename_i ag z l ht hf
      have hok := ty_ok ht
      obtain ⟨fs, hu, hl, hfs⟩ := flds_ok hf
      obtain ⟨zv, h1, h2⟩ := hok.zero w
      cases hc : fillL (fun x => l[x]?) z (parts.toList.map fun (i, x) => (i, ev x)) with
      | none => rw [hc] at hv; cases hv
      | some c =>
        rw [hc] at hv
        cases hv
        obtain ⟨c', h3, h4⟩ := fill_sound (a := a) (ρ := ρ) (ps := parts) (fun x hx => hev x (by simpa [Op.operands] using hx)) (z' := z.toArray) (by simpa using RelL.refl_of_plain hok.pl) hc
        refine ⟨.agg c', ?_, Rel.agg' ?_⟩
        · have hpl : (fs.mapM (fun f => do pure (f.offset, ← sizeOf f.type)) : Sem (Array (Nat × Nat))).run P w = .ok l.toArray w := by
            rw [← hl]
            rw [← Array.toArray_toList (xs := fs)]
            rw [List.mapM_toArray]
            have : ∀ (fl : List Field), (∀ f ∈ fl, f ∈ fs.toList) → (fl.mapM (fun f => do pure (f.offset, ← sizeOf f.type)) : Sem (List (Nat × Nat))).run P w = .ok (fl.map fun f => (f.offset, P.cellsOf f.type)) w := by
              intro fl
              induction fl with
              | nil => intro _; rfl
              | cons f fl ih =>
                intro hm
                have e1 := (hfs f (hm f (by simp)) w).1
                have e2 := ih (fun g hg => hm g (by simp [hg]))
                simp only [List.mapM_cons, Sem.run_bind, e1, Result.andThen_ok, Sem.run_pure, e2, List.map_cons]
            have := this fs.toList (fun f hf => hf)
            simp only [Sem.run_map, this, Result.andThen_ok]
          simp only [execOp, Instr.build, Sem.run_bind, h1, Result.andThen_ok, run_underlying hu, hpl, h2]
          have e : (fun x : Nat => l.toArray[x]?) = fun x : Nat => l[x]? := by funext x; simp
          rw [e]
          replace h3 : Instr.fill (fun x : Nat => l[x]?) z.toArray (parts.map fun x => (x.fst, a.eval x.snd)).toList = some c' := h3
          rw [h3]
          rfl
        · exact ⟨by simpa using h4.1, fun i v v' a b => h4.2 i v v' (by simpa using a) (by simpa using b)⟩
    · rename_i ag z n e ht hf ha
      split at hv
      · rename_i age ze hte
        have hok := ty_ok ht
        have hoke := ty_ok hte
        obtain ⟨zv, h1, h2⟩ := hok.zero w
        cases hc : fillL (fun i => some (i * ze.length, ze.length)) z (parts.toList.map fun (i, x) => (i, ev x)) with
        | none => rw [hc] at hv; cases hv
        | some c =>
          rw [hc] at hv
          cases hv
          obtain ⟨c', h3, h4⟩ := fill_sound (a := a) (ρ := ρ) (ps := parts) (fun x hx => hev x (by simpa [Op.operands] using hx)) (z' := z.toArray) (by simpa using RelL.refl_of_plain hok.pl) hc
          refine ⟨.agg c', ?_, Rel.agg' ?_⟩
          · simp only [execOp, Instr.build, Sem.run_bind, h1, Result.andThen_ok, arr_run ha, hoke.size, h2]
            rw [h3]
            rfl
          · exact ⟨by simpa using h4.1, fun i v v' a b => h4.2 i v v' (by simpa using a) (by simpa using b)⟩
      · cases hv
    · cases hv
  -- buildSlice
  · rename_i t n parts
    split at hv
    · rename_i e hs
      split at hv
      · rename_i ag z hte
        split at hv
        · rename_i hn
          have hok := ty_ok hte
          obtain ⟨zv, h1, h2⟩ := hok.zero w
          cases hc : fillL (fun i => some (i * z.length, z.length)) (zrow n z) (parts.toList.map fun (i, x) => (i, ev x)) with
          | none => rw [hc] at hv; cases hv
          | some c =>
            rw [hc] at hv
            cases hv
            have hzr := zrow_rel (ρ := ρ) n z hok.pl hok.pos
            obtain ⟨c', h3, h4⟩ := fill_sound (a := a) (ρ := ρ) (ps := parts) (fun x hx => hev x (by simpa [Op.operands] using hx)) hzr hc
            refine ⟨rfl, .slice (some ⟨w.heap.size, 0, none⟩) n n, .cells c' e, ?_, fun ρ' m he hm => ⟨.slice hm, c', rfl, rfl, h4.ext he⟩⟩
            replace h3 : Instr.fill (fun i => some (i * z.length, z.length)) ((Array.range (n * z.length)).map (z.toArray[· % z.toArray.size]!)) (parts.map fun x => (x.fst, a.eval x.snd)).toList = some c' := h3
            simp only [execOp, Instr.buildSlice, Sem.run_bind, sl_run hs, Result.andThen_ok, hok.size]
            rw [if_neg (by omega)]
            by_cases h0 : n * z.length = 0
            · rw [if_pos h0]
              have e0 : ∀ f : Nat → Value, (Array.range (n * z.length)).map f = #[] := fun f => by rw [h0]; simp
              rw [e0] at h3
              simp only [Sem.run_bind, Sem.run_pure, Result.andThen_ok, e0, h3]
              rfl
            · rw [if_neg h0]
              simp only [Sem.run_bind, h1, Sem.run_pure, Result.andThen_ok, h2, h3]
              rfl
        · cases hv
      · cases hv
    · cases hv
  -- load
  · rename_i t x
    split at hv
    · rename_i m k ag z hx ht
      split at hv
      · rename_i c e own hm
        have hok := ty_ok ht
        have h1 := hev x (by simp [Op.operands])
        rw [hx] at h1
        obtain ⟨r, ofs, hr, h2⟩ := h1.ptr_inv
        obtain ⟨r', ofs', hr', hblk, _⟩ := hH.blk m _ hm
        rw [hr] at hr'
        cases hr'
        cases hp : partAt ag z.length c k with
        | none => rw [hp] at hv; cases hv
        | some v =>
          rw [hp] at hv
          cases hv
          obtain ⟨v', h3, h4⟩ := partAt_sound (k := k) hok hblk hp
          refine ⟨v', ?_, h4⟩
          simp only [execOp, Instr.loadAt, h2, Instr.sureAddr, Sem.run_bind, Sem.run_pure, Result.andThen_ok, h3]
      · cases hv
    · cases hv
  -- store
  · rename_i t x y
    split at hv
    · rename_i m k ag z hx ht
      split at hv
      · rename_i c e hm
        have hok := ty_ok ht
        have h1 := hev x (by simp [Op.operands])
        have hy := hev y (by simp [Op.operands])
        rw [hx] at h1
        obtain ⟨r, ofs, hr, h2⟩ := h1.ptr_inv
        obtain ⟨r', ofs', hr', hblk, hM⟩ := hH.blk m _ hm
        rw [hr] at hr'
        cases hr'
        obtain ⟨d, hd, rfl, hcd⟩ := hblk
        cases hp : setAt z.length c k (ev y) with
        | none => rw [hp] at hv; cases hv
        | some c' =>
          rw [hp] at hv
          cases hv
          obtain ⟨d', h3, h4⟩ := setAt_sound hok hd hcd hy hp
          have hlt : r < w.heap.size := (Array.getElem?_eq_some_iff.1 hd).1
          refine ⟨rfl, ⟨_, hm, rfl⟩, r, d', hr, hM rfl, hlt, ?_, d', setRow_heap w r d d' e (0, 0) hd, rfl, h4⟩
          rw [Nat.zero_add] at h2
          simp only [execOp, Instr.storeAt, h2, Instr.sureAddr, Sem.run_bind, Sem.run_pure, Result.andThen_ok, h3]
      · cases hv
    · cases hv
  -- nilCheck
  · rename_i x
    have h1 := hev x (by simp [Op.operands])
    split at hv
    · rename_i b hx
      cases hv
      rw [hx] at h1
      have h2 : ∃ b', a.eval x = .pointer (some b') := by
        generalize a.eval x = u at h1
        cases h1 with
        | plain h => exact ⟨b, rfl⟩
        | ptr h => exact ⟨_, rfl⟩
      obtain ⟨b', h2⟩ := h2
      rw [h2] at h1
      exact ⟨.pointer (some b'), by simp only [execOp, h2, Sem.run_pure], h1⟩
    · rename_i f b c hx
      cases hv
      rw [hx] at h1
      obtain ⟨b', c', h2, h3, h4⟩ := h1.func_inv
      rw [h2] at h1
      exact ⟨.func (.func f) b' c', by simp only [execOp, h2, Sem.run_pure], h1⟩
    · cases hv
  -- binOp
  · rename_i op t x y _
    cases hb : vbin op t (ev x) (ev y) with
    | none => rw [hb] at hv; cases hv
    | some v =>
      rw [hb] at hv
      cases hv
      obtain ⟨h1, h2⟩ := vbin_sound (x := x) (y := y) (w := w) (hev x (by simp [Op.operands])) (hev y (by simp [Op.operands])) hb
      refine ⟨v, ?_, .plain h2⟩
      simp only [execOp]
      rw [Sem.run_bind, h1]
      rfl
  -- not
  · rename_i x
    split at hv
    · rename_i b hx
      cases hv
      have h1 := hev x (by simp [Op.operands])
      rw [hx] at h1
      exact ⟨.bool !b, by simp only [execOp, h1.bool_inv, Op.unary, Sem.run_bind, Sem.run_pure, Result.andThen_ok], .plain rfl⟩
    · cases hv
  -- neg
  · rename_i x
    split at hv
    · rename_i k n hx
      cases hv
      have h1 := hev x (by simp [Op.operands])
      rw [hx] at h1
      exact ⟨.int k (k.wrap (0 - n)), by simp only [execOp, h1.int_inv, Op.unary, Op.intArith, Sem.run_bind, Sem.run_pure, Result.andThen_ok], .plain rfl⟩
    · cases hv
  -- convert
  · rename_i src t x
    split at hv
    · rename_i k0 n k1 k hx hk0 hk
      cases hv
      have h1 := hev x (by simp [Op.operands])
      rw [hx] at h1
      refine ⟨.int k (k.wrap n), ?_, .plain rfl⟩
      simp only [execOp, h1.int_inv, convert, Sem.run_bind, run_underlying (ikind_ok hk0), run_underlying (ikind_ok hk), Result.andThen_ok, Conv.intToInt, Sem.run_pure]
    · cases hv
  -- makeFunc
  · rename_i fn first captured
    cases hv
    refine ⟨.func fn (first.map a.eval) (captured.map a.eval), by simp only [execOp, Instr.makeFunc, Sem.run_bind, Sem.run_pure, Result.andThen_ok], ?_⟩
    have h1 := relA_map (ρ := ρ) (ev := ev) (a := a) (xs := first) (fun x hx => hev x (by simp [Op.operands, hx]))
    have h2 := relA_map (ρ := ρ) (ev := ev) (a := a) (xs := captured) (fun x hx => hev x (by simp [Op.operands, hx]))
    have map_eq : ∀ xs : Array Operand, (xs.toList.map ev).toArray = xs.map ev := fun xs => by rw [← Array.toList_map, Array.toArray_toList]
    rw [map_eq, map_eq]
    exact .func h1.1 h1.2 h2.1 h2.2
  -- fieldAddr
  · rename_i t x f
    split at hv
    · rename_i m k l hx hf
      split at hv
      · rename_i off sz hl
        cases hv
        have h1 := hev x (by simp [Op.operands])
        rw [hx] at h1
        obtain ⟨r, ofs, hr, h2⟩ := h1.ptr_inv
        obtain ⟨fs, hu, hfl, hfs⟩ := flds_ok hf
        have hff : ∃ fd, fs[f]? = some fd ∧ fd.offset = off ∧ fd ∈ fs.toList := by
          rw [← hfl, List.getElem?_map] at hl
          cases hq : fs.toList[f]? with
          | none => rw [hq] at hl; cases hl
          | some fd =>
            rw [hq] at hl
            cases hl
            exact ⟨fd, by simpa using hq, rfl, List.mem_of_getElem? hq⟩
        obtain ⟨fd, h3, h4, h5⟩ := hff
        obtain ⟨h6, h7⟩ := hfs fd h5 w
        refine ⟨.pointer (some ⟨r, ofs + (k + off), none⟩), ?_, .ptr hr⟩
        simp only [execOp, Instr.fieldAt, Sem.run_bind, run_underlying hu, Result.andThen_ok, h3, h2, Instr.sureAddr, Sem.run_pure, fieldPlace, h6, Sem.run_ite]
        rw [if_neg (by omega), addr_add, h4, Nat.add_assoc]
        rfl
      · cases hv
    · cases hv
  -- indexAddr
  · rename_i t x i
    split at hv
    · rename_i m k k0 n hx hi
      split at hv
      · rename_i len e ha
        split at hv
        · rename_i ag z hte
          cases hp : vindex len z.length k m n with
          | none => rw [hp] at hv; cases hv
          | some v =>
            rw [hp] at hv
            cases hv
            obtain ⟨h3, h4, rfl⟩ := vindex_sound hp
            have h1 := hev x (by simp [Op.operands])
            have hi1 := hev i (by simp [Op.operands])
            rw [hx] at h1
            rw [hi] at hi1
            obtain ⟨r, ofs, hr, h2⟩ := h1.ptr_inv
            refine ⟨.pointer (some ⟨r, ofs + (k + n.toNat * z.length), none⟩), ?_, .ptr hr⟩
            simp only [execOp, Instr.indexAt, hi1.int_inv, asIntOf, Sem.run_bind, Sem.run_pure, Result.andThen_ok, arr_run ha, h2, Instr.sureAddr]
            rw [if_pos ⟨h3, h4⟩]
            simp only [Sem.run_bind, (ty_ok hte).size w, Result.andThen_ok, Sem.run_pure, addr_add, Nat.add_assoc]
        · cases hv
      · cases hv
    · rename_i m k len cap k0 n hx hi
      split at hv
      · rename_i e hs
        split at hv
        · rename_i ag z hte
          cases hp : vindex len z.length k m n with
          | none => rw [hp] at hv; cases hv
          | some v =>
            rw [hp] at hv
            cases hv
            obtain ⟨h3, h4, rfl⟩ := vindex_sound hp
            have h1 := hev x (by simp [Op.operands])
            have hi1 := hev i (by simp [Op.operands])
            rw [hx] at h1
            rw [hi] at hi1
            obtain ⟨r, ofs, hr, h2⟩ := h1.slice_inv
            refine ⟨.pointer (some ⟨r, ofs + (k + n.toNat * z.length), none⟩), ?_, .ptr hr⟩
            simp only [execOp, Instr.indexAt, hi1.int_inv, asIntOf, Sem.run_bind, Sem.run_pure, Result.andThen_ok, sl_run hs, h2]
            rw [if_pos ⟨h3, h4⟩]
            simp only [Sem.run_bind, (ty_ok hte).size w, Result.andThen_ok, Sem.run_pure, addr_add, Nat.add_assoc]
        · cases hv
      · cases hv
    · cases hv
  -- index
  · rename_i t x i
    split at hv
    · rename_i cs k0 n len e hx hi ha
      split at hv
      · rename_i z hte
        split at hv
        · rename_i hn
          cases hp : cs.toList[n.toNat]? with
          | none => rw [hp] at hv; cases hv
          | some v =>
            rw [hp] at hv
            cases hv
            have h1 := hev x (by simp [Op.operands])
            have hi1 := hev i (by simp [Op.operands])
            rw [hx] at h1
            rw [hi] at hi1
            obtain ⟨cs', h2, h3⟩ := h1.agg_inv
            obtain ⟨v', h4, h5⟩ := h3.get (i := n.toNat) (v := v) (by simpa using hp)
            have hok := ty_ok hte
            refine ⟨v', ?_, h5⟩
            simp only [execOp, Instr.index, hi1.int_inv, asIntOf, Sem.run_bind, Sem.run_pure, Result.andThen_ok, arr_run ha, h2]
            rw [if_pos hn]
            simp only [Sem.run_bind, hok.size w, Result.andThen_ok]
            rw [show n.toNat * z.length = n.toNat by rw [hok.one rfl, Nat.mul_one], part_one hok h4]
            rfl
        · cases hv
      · cases hv
    · cases hv
  -- slice
  · rename_i t x lo hi mx
    split at hv
    · rename_i b len cap e hx hs
      split at hv
      · rename_i ag z hte
        cases hp : sbounds len cap (lo.map ev) (hi.map ev) (mx.map ev) with
        | none => rw [hp] at hv; cases hv
        | some q =>
          obtain ⟨l, hh, m⟩ := q
          rw [hp] at hv
          cases hv
          have h1 := hev x (by simp [Op.operands])
          rw [hx] at h1
          have hb := sbounds_sound (w := w) (OptRel.map (ρ := ρ) (ev := ev) (a := a) (x := lo) fun y hy => hev y (by simp [Op.operands, hy])) (OptRel.map (ρ := ρ) (ev := ev) (a := a) (x := hi) fun y hy => hev y (by simp [Op.operands, hy]))
            (OptRel.map (ρ := ρ) (ev := ev) (a := a) (x := mx) fun y hy => hev y (by simp [Op.operands, hy])) hp
          have hok := ty_ok hte
          have main : ∀ b', a.eval x = .slice b' len cap → Rel ρ (.slice (if m = l then b else b.map fun b => ⟨b.block, b.off + l * z.length, none⟩) (hh - l) (m - l)) (.slice (if m = l then b' else b'.map (·.add (l * z.length))) (hh - l) (m - l)) →
              EfOk M ρ h { dst := dst, op := .slice t x lo hi mx, type := type, pos := pos, after := after, guard := guard } a w (.val (.slice (if m = l then b else b.map fun b => ⟨b.block, b.off + l * z.length, none⟩) (hh - l) (m - l))) := by
            intro b' hb' hr
            refine ⟨_, ?_, hr⟩
            simp only [execOp, Instr.sliceAt, hb', Sem.run_bind, sl_run hs, Result.andThen_ok, Instr.slice, hb, hok.size w, Sem.run_pure]
          cases b with
          | none =>
            refine main none (h1.eq_of_plain rfl) ?_
            simp only [Option.map_none, ite_self]
            exact .plain rfl
          | some b =>
            generalize hu : a.eval x = u at h1
            cases h1 with
            | plain h => simp [Vm.plain] at h
            | slice h =>
              refine main _ hu ?_
              split
              · exact .slice h
              · simp only [Option.map_some, addr_add, Nat.add_assoc]
                exact .slice h
      · cases hv
    · cases hv
  -- extract
  · rename_i x i
    split at hv
    · rename_i vs hx
      cases hp : vs.toList[i]? with
      | none => rw [hp] at hv; cases hv
      | some v =>
        rw [hp] at hv
        cases hv
        have h1 := hev x (by simp [Op.operands])
        rw [hx] at h1
        obtain ⟨vs', h2, h3⟩ := h1.tuple_inv
        obtain ⟨v', h4, h5⟩ := h3.get (i := i) (v := v) (by simpa using hp)
        refine ⟨v', ?_, h5⟩
        simp only [execOp, h2, Instr.extract, h4, Sem.run_bind, Sem.run_pure, Result.andThen_ok]
    · cases hv
  -- len
  · rename_i x t
    split at hv
    · rename_i b n cap e hx hs
      cases hv
      have h1 := hev x (by simp [Op.operands, Call.operands])
      rw [hx] at h1
      have h2 : ∃ b', a.eval x = .slice b' n cap := by
        generalize a.eval x = u at h1
        cases h1 with
        | plain h => exact ⟨b, rfl⟩
        | slice h => exact ⟨_, rfl⟩
      obtain ⟨b', h2⟩ := h2
      refine ⟨.int .i64 n, ?_, .plain rfl⟩
      simp only [execOp, resolve, invoke, builtin, Sem.run_bind, Sem.run_pure, Result.andThen_ok, List.map_toArray, List.map_cons, List.map_nil, h2, Builtin.len_,
        List.getElem?_toArray, List.getElem?_cons_zero, sl_run hs, goInt]
    · cases hv
  -- cap
  · rename_i x t
    split at hv
    · rename_i b len n e hx hs
      cases hv
      have h1 := hev x (by simp [Op.operands, Call.operands])
      rw [hx] at h1
      have h2 : ∃ b', a.eval x = .slice b' len n := by
        generalize a.eval x = u at h1
        cases h1 with
        | plain h => exact ⟨b, rfl⟩
        | slice h => exact ⟨_, rfl⟩
      obtain ⟨b', h2⟩ := h2
      refine ⟨.int .i64 n, ?_, .plain rfl⟩
      simp only [execOp, resolve, invoke, builtin, Sem.run_bind, Sem.run_pure, Result.andThen_ok, List.map_toArray, List.map_cons, List.map_nil, h2, Builtin.cap_,
        List.getElem?_toArray, List.getElem?_cons_zero, sl_run hs, goInt]
    · cases hv
  -- min
  · rename_i x y ts
    split at hv
    · rename_i k n k' n' hx hy
      cases hv
      have h1 := hev x (by simp [Op.operands, Call.operands])
      have h2 := hev y (by simp [Op.operands, Call.operands])
      rw [hx] at h1
      rw [hy] at h2
      refine ⟨_, ?_, .plain (by rfl)⟩
      simp only [execOp, resolve, invoke, builtin, Sem.run_bind, Sem.run_pure, Result.andThen_ok, List.map_toArray, List.map_cons, List.map_nil, h1.int_inv, h2.int_inv, Builtin.min_, List.foldlM_cons, List.foldlM_nil, Builtin.min2]
    · cases hv
  · cases hv

end ops

end Go.Proofs.Ytdfkcijholopoaa.Vm
