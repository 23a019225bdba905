/- Code over virtual states: the rules; contracts of functions. -/
import Derived.Test.YtdfkcijholopoaaVm11
import Derived.Deep.LoopGhost
namespace Go.Proofs.Ytdfkcijholopoaa.Vm
open Go Go.RowKit
set_option linter.unusedSimpArgs false

/-- The names below B stand for what they stood for. -/
def ExtB (B : Nat) (ρ ρ' : Nat → Option (Nat × Nat)) : Prop := ∀ m x, m < B → ρ m = some x → ρ' m = some x
theorem ExtB.refl {B : Nat} (ρ : Nat → Option (Nat × Nat)) : ExtB B ρ ρ := fun _ _ _ h => h
theorem ExtB.trans {B : Nat} {a b c : Nat → Option (Nat × Nat)} (h : ExtB B a b) (k : ExtB B b c) : ExtB B a c := fun m x hm hx => k m x hm (h m x hm hx)
theorem Ext.toB {B : Nat} {a b : Nat → Option (Nat × Nat)} (h : Ext a b) : ExtB B a b := fun m x _ hx => h m x hx

/-- CODE OVER VIRTUAL STATES: whatever frame and world stand for s, the code ends, and what it ends in stands for a state of Q. -/
def VC {B : Nat} (N : Nat) (c : Code) (Q : Exit → St → Prop) (s : St) : Prop :=
  ∀ (M : Nat → Prop) (w0 : World) (ρ : Nat → Option (Nat × Nat)) (a : Act) (w : World), RR M w0 N (fun m => s.n ≤ m) ρ s a w →
    c.wp P (fun e a' w' => ∃ ρ' s', ExtB B ρ ρ' ∧ RR M w0 N (fun m => s'.n ≤ m) ρ' s' a' w' ∧ Q e s') a w

def thenV {B : Nat} (N : Nat) (y : Code) (Q : Exit → St → Prop) : Exit → St → Prop
  | .normal, s => VC (B := B) N y Q s
  | e, s => Q e s
def blockV (id : Nat) (Q : Exit → St → Prop) : Exit → St → Prop
  | .exit id', s => if id' = id then Q .normal s else Q (.exit id') s
  | e, s => Q e s

theorem VC.mono {B N : Nat} {c : Code} {Q Q' : Exit → St → Prop} {s : St} (h : VC (B := B) N c Q s) (hq : ∀ e s, Q e s → Q' e s) : VC (B := B) N c Q' s :=
  fun M w0 ρ a w hr => wp_mono (h M w0 ρ a w hr) fun e _ _ ⟨ρ', s', h1, h2, h3⟩ => ⟨ρ', s', h1, h2, hq e s' h3⟩

theorem vc_skip {B N : Nat} {Q : Exit → St → Prop} {s : St} (h : Q .normal s) : VC (B := B) N .skip Q s := fun _ _ ρ _ _ hr => wp_skip ⟨ρ, s, ExtB.refl _, hr, h⟩
theorem vc_ret {B N : Nat} {Q : Exit → St → Prop} {s : St} (h : Q .ret s) : VC (B := B) N .ret Q s := fun _ _ ρ _ _ hr => wp_ret ⟨ρ, s, ExtB.refl _, hr, h⟩
theorem vc_exit {B N id : Nat} {Q : Exit → St → Prop} {s : St} (h : Q (.exit id) s) : VC (B := B) N (.exit id) Q s := fun _ _ ρ _ _ hr => wp_exit ⟨ρ, s, ExtB.refl _, hr, h⟩

theorem vc_seq {B N : Nat} {x y : Code} {Q : Exit → St → Prop} {s : St} (h : VC (B := B) N x (thenV (B := B) N y Q) s) : VC (B := B) N (.seq x y) Q s := by
  intro M w0 ρ a w hr
  refine wp_seq (wp_mono (h M w0 ρ a w hr) ?_)
  rintro e a' w' ⟨ρ', s', h1, h2, h3⟩
  cases e with
  | normal =>
    refine wp_mono (h3 M w0 ρ' a' w' h2) ?_
    rintro e a2 w2 ⟨ρ2, s2, h4, h5, h6⟩
    exact ⟨ρ2, s2, h1.trans h4, h5, h6⟩
  | _ => exact ⟨ρ', s', h1, h2, h3⟩

theorem vc_block {B N id : Nat} {c : Code} {Q : Exit → St → Prop} {s : St} (h : VC (B := B) N c (blockV id Q) s) : VC (B := B) N (.block id c) Q s := by
  intro M w0 ρ a w hr
  refine wp_block (wp_mono (h M w0 ρ a w hr) ?_)
  rintro e a' w' ⟨ρ', s', h1, h2, h3⟩
  cases e with
  | exit id' =>
    simp only [blockV] at h3
    simp only [Exit.inBlock]
    split
    · rename_i he; rw [if_pos he] at h3; exact ⟨ρ', s', h1, h2, h3⟩
    · rename_i he; rw [if_neg he] at h3; exact ⟨ρ', s', h1, h2, h3⟩
  | _ => exact ⟨ρ', s', h1, h2, h3⟩

theorem vc_cond {B N : Nat} {c : Operand} {x y : Code} {Q : Exit → St → Prop} {s : St} {t : Bool} (hc : s.ev c = .bool t) (h1 : t = true → VC (B := B) N x Q s) (h2 : t = false → VC (B := B) N y Q s) : VC (B := B) N (.cond c x y) Q s := by
  intro M w0 ρ a w hr
  have he : a.eval c = .bool t := by
    cases c with
    | tmp k => have := hr.tmp k; rw [show s.t k = .bool t from hc] at this; exact (this rfl).bool_inv
    | const v => exact hc
    | global g => cases hc
    | func f => cases hc
  cases t with
  | true => exact wp_cond he (h1 rfl M w0 ρ a w hr)
  | false => exact wp_cond he (h2 rfl M w0 ρ a w hr)

/-- A LOOP: an invariant that bears a number, which every round lowers. -/
theorem vc_loop {B N : Nat} {c : Code} {Q : Exit → St → Prop} {s : St} (I : Nat → St → Prop) (n0 : Nat) (h0 : I n0 s) (round : ∀ n s, I n s → VC (B := B) N c (fun e s' => match e with | .normal => ∃ n', n' < n ∧ I n' s' | e => Q e s') s) : VC (B := B) N (.loop c) Q s := by
  intro M w0 ρ a w hr
  refine wp_loop_ghost (fun n a w => ∃ ρ' s', ExtB B ρ ρ' ∧ RR M w0 N (fun m => s'.n ≤ m) ρ' s' a w ∧ I n s') n0 ⟨ρ, s, ExtB.refl _, hr, h0⟩ ?_
  rintro n a w ⟨ρ1, s1, h1, h2, h3⟩
  refine wp_mono (round n s1 h3 M w0 ρ1 a w h2) ?_
  rintro e a' w' ⟨ρ2, s2, h4, h5, h6⟩
  cases e with
  | normal =>
    obtain ⟨n', h7, h8⟩ := h6
    exact ⟨n', h7, ρ2, s2, h1.trans h4, h5, h8⟩
  | _ => exact ⟨ρ2, s2, h1.trans h4, h5, h6⟩

/-! ### Regions -/
/-- The run, one operation at a time (a region that keeps the text's order). -/
def vgo (ops : Array Oper) (base : Nat) : Nat → List Oper → St → (St → Prop) → Prop
  | _, [], s, K => K s
  | i, o :: rest, s, K =>
    match wantV ops o s.t with
    | some true => match vex s.ev s.h o.op with
      | some ef => vgo ops base (i + 1) rest (s.app o.dst (ef.out (base + i)).1 (ef.out (base + i)).2) K
      | none => kd o.op = .sp ∧ ∃ rd Out, SpOk o (base + i) s.ev s.h rd Out ∧ (∃ v u, Out v u) ∧ ∀ v u, Out v u → vgo ops base (i + 1) rest (s.app o.dst v u) K
    | some false => vgo ops base (i + 1) rest (s.put o.dst undef) K
    | none => False

theorem chk_nil (log : List (Nat × List Nat × List Nat)) (i : Nat) (rd wr : List Nat) : chk [] log i rd wr := fun _ _ h => by cases h

theorem vlex_of_vgo {ops : Array Oper} {base : Nat} {K : St → Prop} : ∀ {l : List Oper} {i : Nat} {s : St} {log : List (Nat × List Nat × List Nat)}, vgo ops base i l s K → vlex ops [] base (idx i l) log s K
  | [], _, _, _, h => h
  | o :: l, i, s, log, h => by
    unfold vgo at h
    split at h
    · rename_i hw
      split at h
      · rename_i ef he
        refine .inl ⟨ef.rds, _, _, ?_, chk_nil _ _ _ _, vlex_of_vgo h⟩
        unfold cst
        rw [hw]
        simp only [he, Option.map_some]
      · obtain ⟨h1, rd, Out, h2, h3, h4⟩ := h
        exact .inr ⟨h1, hw, rd, Out, h2, h3, fun v u hu => ⟨chk_nil _ _ _ _, vlex_of_vgo (h4 v u hu)⟩⟩
    · rename_i hw
      refine .inl ⟨[], undef, [], ?_, chk_nil _ _ _ _, ?_⟩
      · unfold cst; rw [hw]
      · rw [St.app_undef]; exact vlex_of_vgo h
    · exact h.elim

/-- The run, one operation at a time (a region that draws its order). -/
def vgoD (ops : Array Oper) (U : List (Nat × Nat)) (base : Nat) : Nat → List Oper → List (Nat × List Nat × List Nat) → St → (St → Prop) → Prop
  | _, [], _, s, K => K s
  | i, o :: rest, log, s, K =>
    match wantV ops o s.t with
    | some true => match vex s.ev s.h o.op with
      | some ef => chk U log i ef.rds ((ef.out (base + i)).2.map (·.1)) ∧ vgoD ops U base (i + 1) rest ((i, ef.rds, (ef.out (base + i)).2.map (·.1)) :: log) (s.app o.dst (ef.out (base + i)).1 (ef.out (base + i)).2) K
      | none => kd o.op = .sp ∧ ∃ rd Out, SpOk o (base + i) s.ev s.h rd Out ∧ (∃ v u, Out v u) ∧ ∀ v u, Out v u → chk U log i rd (u.map (·.1)) ∧ vgoD ops U base (i + 1) rest ((i, rd, u.map (·.1)) :: log) (s.app o.dst v u) K
    | some false => vgoD ops U base (i + 1) rest log (s.put o.dst undef) K
    | none => False

theorem vlex_of_vgoD {ops : Array Oper} {U : List (Nat × Nat)} {base : Nat} {K : St → Prop} : ∀ {l : List Oper} {i : Nat} {s : St} {log log' : List (Nat × List Nat × List Nat)}, (∀ e ∈ log', e ∈ log ∨ (e.2.1 = [] ∧ e.2.2 = [])) →
    vgoD ops U base i l log s K → vlex ops U base (idx i l) log' s K
  | [], _, _, _, _, _, h => h
  | o :: l, i, s, log, log', hl, h => by
    have hc : ∀ {rd wr}, chk U log i rd wr → chk U log' i rd wr := by
      intro rd wr h e he hu
      rcases hl e he with h1 | ⟨h1, h2⟩
      · exact h e h1 hu
      · rw [h1, h2]; simp
    have hl' : ∀ x, ∀ e ∈ x :: log', e ∈ x :: log ∨ (e.2.1 = [] ∧ e.2.2 = []) := fun x e he => by
      rcases List.mem_cons.1 he with rfl | he
      · exact .inl List.mem_cons_self
      · exact (hl e he).imp (List.mem_cons_of_mem _) id
    unfold vgoD at h
    split at h
    · rename_i hw
      split at h
      · rename_i ef he
        refine .inl ⟨ef.rds, _, _, ?_, hc h.1, vlex_of_vgoD (hl' _) h.2⟩
        unfold cst
        rw [hw]
        simp only [he, Option.map_some]
      · obtain ⟨h1, rd, Out, h2, h3, h4⟩ := h
        exact .inr ⟨h1, hw, rd, Out, h2, h3, fun v u hu => ⟨hc (h4 v u hu).1, vlex_of_vgoD (hl' _) (h4 v u hu).2⟩⟩
    · rename_i hw
      refine .inl ⟨[], undef, [], ?_, fun e _ _ => by simp, ?_⟩
      · unfold cst; rw [hw]
      · rw [St.app_undef]
        refine vlex_of_vgoD (fun e he => ?_) h
        rcases List.mem_cons.1 he with rfl | he
        · exact .inr ⟨rfl, rfl⟩
        · exact hl e he
    · exact h.elim

theorem vc_region {B N id : Nat} {l : List Oper} {Q : Exit → St → Prop} {s : St} (hok : l.all (okOp N) = true) (h : ∀ K : St → Prop, (∀ s', Q .normal s' → K s') → vgo l.toArray s.n 0 l s K) : VC (B := B) N (.region id l.toArray false) Q s := by
  intro M w0 ρ a w hr
  refine wp_region_lit ?_
  refine vlex_list (M := M) (w0 := w0) (N := N) l 0 [] ρ s a w (vlex_of_vgo (h (fun s' => Q .normal s') fun _ h => h)) (Nat.le_refl _) hr hok ?_
  intro ρ' s' a' w' he hr' hk
  exact ⟨ρ', s', he.toB, hr', hk⟩

theorem mixed : P.follows .mixedOrders = true := by kernel_rfl

theorem idx_get : ∀ (l : List Oper) (k : Nat) (x : Nat × Oper), x ∈ idx k l → k ≤ x.1 ∧ l[x.1 - k]? = some x.2
  | [], _, _, h => by cases h
  | o :: l, k, x, h => by
    rcases List.mem_cons.1 h with rfl | h
    · simp
    · obtain ⟨h1, h2⟩ := idx_get l (k + 1) x h
      refine ⟨by omega, ?_⟩
      rw [show x.1 - k = (x.1 - (k + 1)) + 1 by omega]
      simpa using h2
theorem idx_mem : ∀ (l : List Oper) (k i : Nat) (o : Oper), l[i]? = some o → (k + i, o) ∈ idx k l
  | [], _, _, _, h => by simp at h
  | x :: l, k, 0, o, h => by simp at h; subst h; simp [idx]
  | x :: l, k, i + 1, o, h => by
    have := idx_mem l (k + 1) i o (by simpa using h)
    rw [show k + (i + 1) = k + 1 + i by omega]
    exact List.mem_cons_of_mem _ this
theorem idx_pair : ∀ (l : List Oper) (k : Nat), (idx k l).Pairwise (fun x y => x.1 < y.1)
  | [], _ => List.Pairwise.nil
  | o :: l, k => List.pairwise_cons.2 ⟨fun y hy => by have := (idx_get l (k + 1) y hy).1; simp only; omega, idx_pair l (k + 1)⟩
theorem idx_length : ∀ (l : List Oper) (k : Nat), (idx k l).length = l.length
  | [], _ => rfl
  | o :: l, k => by simp [idx, idx_length l]

theorem RR.drew {M : Nat → Prop} {w0 : World} {N : Nat} {fr : Nat → Prop} {ρ : Nat → Option (Nat × Nat)} {s : St} {a : Act} {w : World} (hr : RR M w0 N fr ρ s a w) : RR M w0 N fr ρ s a { w with drawn := w.drawn + 1 } :=
  ⟨hr.size, hr.defers, hr.tmp, ⟨hr.heap.blk, hr.heap.inj, hr.heap.new⟩, hr.fresh, ⟨hr.kept.os, hr.kept.tape, hr.kept.output, hr.kept.size, hr.kept.block⟩⟩

theorem vc_regionD {B N id : Nat} {l : List Oper} {Q : Exit → St → Prop} {s : St} (U : List (Nat × Nat)) (hok : l.all (okOp N) = true) (hg : goodR l.toArray U = true)
    (h : ∀ K : St → Prop, (∀ s', Q .normal s' → K s') → vgoD l.toArray U s.n 0 l [] s K) : VC (B := B) N (.region id l.toArray true) Q s := by
  intro M w0 ρ a w hr
  refine wp_region_any mixed ?_
  have hv := vlex_of_vgoD (log' := []) (fun e he => by cases he) (h (fun s' => Q .normal s') fun _ h => h)
  refine any_of_vlex (M := M) (w0 := w0) (N := N) (base := s.n) (ρ0 := ρ) hg ?_ ?_ l.toArray.size (idx 0 l) (Array.replicate l.toArray.size false) ρ s a _ (by simp [idx_length]) (by simp) ?_ ?_ (idx_pair l 0) ?_ (Ext.refl _) ?_ hv
  · intro i o ho
    exact List.all_eq_true.1 hok o (List.mem_of_getElem? (by simpa using ho))
  · intro ρ' s' a' w' he hr' hk
    exact ⟨ρ', s', he.toB, hr', hk⟩
  · intro x hx
    obtain ⟨_, h2⟩ := idx_get l 0 x hx
    have hlt : x.1 < l.length := (List.getElem?_eq_some_iff.1 (by simpa using h2)).1
    exact ⟨by simpa using h2, by simp [Array.getD_eq_getD_getElem?, hlt]⟩
  · intro k hk _
    have hk' : k < l.length := by simpa using hk
    exact ⟨l[k], by have := idx_mem l 0 k l[k] (by simp [hk']); simpa using this⟩
  · intro i o ho hl
    have hlt : i < l.length := by simpa using (Array.getElem?_eq_some_iff.1 ho).1
    simp [Array.getD_eq_getD_getElem?, hlt] at hl
  · refine hr.drew.mono fun m hm => ?_
    rcases hm with hm | ⟨k, rfl, _⟩
    · exact hm
    · exact Nat.le_add_right _ _

end Go.Proofs.Ytdfkcijholopoaa.Vm
