/- Functions that write: blocks of the caller's, and one new one, are told by what they leave. -/
import Derived.Test.YtdfkcijholopoaaVm24
namespace Go.Proofs.Ytdfkcijholopoaa.Vm
open Go Go.RowKit
set_option linter.unusedSimpArgs false

/-- The callee's names, as the caller has them; n: the new one. -/
def toF (f : Nat → Nat × Nat) (n m : Nat) (k : Nat) : Nat × Nat := if k = n then (m, 0) else f k
def renB (f : Nat → Nat × Nat) : Blk → Blk
  | .cells c t own => .cells (renL f c) t own
  | .obj o => .obj o
def renU (f : Nat → Nat × Nat) : List (Nat × Blk) → List (Nat × Blk)
  | [] => []
  | (k, b) :: u => ((f k).1, renB f b) :: renU f u
theorem renU_mem {f : Nat → Nat × Nat} {y : Nat × Blk} : ∀ {u : List (Nat × Blk)}, y ∈ renU f u → ∃ x ∈ u, y = ((f x.1).1, renB f x.2)
  | [], h => by cases h
  | (k, b) :: u, h => by
    rcases List.mem_cons.1 h with rfl | h
    · exact ⟨(k, b), by simp, rfl⟩
    · obtain ⟨x, h1, h2⟩ := renU_mem h
      exact ⟨x, by simp [h1], h2⟩
theorem renU_of {f : Nat → Nat × Nat} {x : Nat × Blk} : ∀ {u : List (Nat × Blk)}, x ∈ u → ((f x.1).1, renB f x.2) ∈ renU f u
  | [], h => by cases h
  | (k, b) :: u, h => by
    rcases List.mem_cons.1 h with rfl | h
    · simp [renU]
    · exact List.mem_cons_of_mem _ (renU_of h)

def HasF (h : Nat → Option Blk) (f : Nat → Nat × Nat) (hp : List (Nat × Blk)) : Prop :=
  (∀ x ∈ hp, ∃ b, h (f x.1).1 = some b ∧ SubB f (f x.1).2 x.2 b) ∧
  (∀ x ∈ hp, ∀ y ∈ hp, x.1 ≠ y.1 → x.2.own = true → (f x.1).1 ≠ (f y.1).1)

/-- A FUNCTION, WHATEVER IT DOES: called with these, where the blocks hp are as told, it returns v and leaves the blocks as u tells (n: a new one), as Out says. -/
structure FC (g : FuncId) (vs : List Value) (n : Nat) (hp : List (Nat × Blk)) (Out : Value → List (Nat × Blk) → Prop) : Prop where
  good : goodF g = true
  calls : ∀ (M : Nat → Prop) (ρ : Nat → Option (Nat × Nat)) (h : Nat → Option Blk) (w : World) (f : Nat → Nat × Nat) (m : Nat) (vs' : List Value), HasF h f hp → RH M ρ h w → ρ m = none → RelL ρ (renL f vs) vs' →
    Calls P g vs'.toArray w (fun e w' => ∃ v v' u ρ', Out v u ∧ e = .returned v' ∧ Ext ρ ρ' ∧ Rel ρ' (renV (toF f n m) v) v' ∧ RH M ρ' (updL h (renU (toF f n m) u)) w' ∧ Kept M w w' ∧
      (∀ x ∈ renU (toF f n m) u, x.1 = m ∨ ρ x.1 ≠ none) ∧ ∀ k, ρ k = none → k ∉ (renU (toF f n m) u).map (·.1) → ρ' k = none)

theorem Rel.fwd {σ ρ' : Nat → Option (Nat × Nat)} {F : Nat → Nat × Nat} {K : Nat} (hF : ∀ k r o, k < K → σ k = some (r, o) → ∃ o0, ρ' (F k).1 = some (r, o0) ∧ o = o0 + (F k).2) :
    ∀ {v u : Value}, Rel σ v u → bdV K v = true → Rel ρ' (renV F v) u := by
  intro v u h
  have arr : ∀ {c c' : Array Value}, (∀ (i : Nat) (v v' : Value), c[i]? = some v → c'[i]? = some v' → bdV K v = true → Rel ρ' (renV F v) v') → bdA K c = true →
      ∀ (i : Nat) (v v' : Value), (renA F c)[i]? = some v → c'[i]? = some v' → Rel ρ' v v' := by
    intro c c' ih hb i v v' h1 h2
    rw [renA_get] at h1
    cases hc : c[i]? with
    | none => rw [hc] at h1; cases h1
    | some v0 =>
      rw [hc] at h1
      cases h1
      exact ih i v0 v' hc h2 (bdA_get hb hc)
  induction h with
  | plain hp => intro _; rw [renV_plain F _ hp]; exact .plain hp
  | @ptr m k r o hm =>
    intro hb
    simp only [bdV, decide_eq_true_eq] at hb
    obtain ⟨o0, h1, rfl⟩ := hF m r o hb hm
    simp only [renV]
    rw [Nat.add_assoc]
    exact .ptr h1
  | @slice m k r o l c hm =>
    intro hb
    simp only [bdV, decide_eq_true_eq] at hb
    obtain ⟨o0, h1, rfl⟩ := hF m r o hb hm
    simp only [renV]
    rw [Nat.add_assoc]
    exact .slice h1
  | map hm => intro hb; simp [bdV] at hb
  | @func fn a a' c c' h1 h2 h3 h4 ih1 ih2 =>
    intro hb
    simp only [bdV, Bool.and_eq_true] at hb
    exact .func (by rw [← h1, renA_size]) (arr ih1 hb.1) (by rw [← h3, renA_size]) (arr ih2 hb.2)
  | @agg c c' h1 h2 ih =>
    intro hb
    simp only [bdV] at hb
    exact .agg (by rw [← h1, renA_size]) (arr ih hb)
  | @tuple c c' h1 h2 ih =>
    intro hb
    simp only [bdV] at hb
    exact .tuple (by rw [← h1, renA_size]) (arr ih hb)
theorem renL_length (f : Nat → Nat × Nat) (l : List Value) : (renL f l).length = l.length := by simpa [renA] using renA_size f ⟨l⟩
theorem RObj.fwd {σ ρ' : Nat → Option (Nat × Nat)} {F : Nat → Nat × Nat} {K : Nat} (hF : ∀ k r o, k < K → σ k = some (r, o) → ∃ o0, ρ' (F k).1 = some (r, o0) ∧ o = o0 + (F k).2) {b : Blk} {o : Nat} {x : Option Obj}
    (h : RObj σ b o x) (hb : bdB K b = true) : RObj ρ' (renB F b) o x := by
  cases b with
  | obj ob => exact h
  | cells c t own =>
    simp only [bdB] at hb
    cases own with
    | true =>
      obtain ⟨c', h1, h2, h3⟩ := h
      refine ⟨c', h1, h2, by rw [renL_length]; exact h3.1, fun i v v' hv hv' => ?_⟩
      rw [renL_get] at hv
      cases hc : c[i]? with
      | none => rw [hc] at hv; cases hv
      | some v0 =>
        rw [hc] at hv
        cases hv
        exact (h3.2 i v0 v' hc hv').fwd hF (bdL_get hb hc)
    | false =>
      obtain ⟨c', t', fz, h1, h2⟩ := h
      refine ⟨c', t', fz, h1, fun i v hv => ?_⟩
      rw [renL_get] at hv
      cases hc : c[i]? with
      | none => rw [hc] at hv; cases hv
      | some v0 =>
        rw [hc] at hv
        cases hv
        obtain ⟨v', h3, h4⟩ := h2 i v0 hc
        exact ⟨v', h3, h4.fwd hF (bdL_get hb hc)⟩
theorem RObj.own0 {ρ : Nat → Option (Nat × Nat)} {b : Blk} {o : Nat} {x : Option Obj} (h : RObj ρ b o x) (hb : b.own = true) : o = 0 := by
  cases b with
  | obj ob => exact h.2
  | cells c t own =>
    simp only [Blk.own] at hb
    subst hb
    obtain ⟨_, _, h2, _⟩ := h
    exact h2
theorem updL_get : ∀ {u : List (Nat × Blk)} {h : Nat → Option Blk} {x : Nat × Blk}, (u.map (·.1)).Nodup → x ∈ u → updL h u x.1 = some x.2
  | [], _, _, _, h => by cases h
  | (k, b) :: u, h, x, hn, hx => by
    simp only [List.map_cons, List.nodup_cons] at hn
    simp only [updL]
    rcases List.mem_cons.1 hx with rfl | hx
    · rw [updL_other fun y hy e => hn.1 (List.mem_map.2 ⟨y, hy, e⟩), upd_same]
    · exact updL_get hn.2 hx
theorem updL_cases {u : List (Nat × Blk)} {h : Nat → Option Blk} {k : Nat} {b : Blk} (hn : (u.map (·.1)).Nodup) (hk : updL h u k = some b) : (k, b) ∈ u ∨ (k ∉ u.map (·.1) ∧ h k = some b) := by
  by_cases hm : k ∈ u.map (·.1)
  · left
    obtain ⟨x, hx, rfl⟩ := List.mem_map.1 hm
    rw [updL_get hn hx] at hk
    cases hk
    exact hx
  · right
    rw [updL_other fun x hx e => hm (List.mem_map.2 ⟨x, hx, e⟩)] at hk
    exact ⟨hm, hk⟩

/-- What a body must end in. -/
def Res (n : Nat) (hp : List (Nat × Blk)) (rs : List ResultVar) (Out : Value → List (Nat × Blk) → Prop) (s : St) : Prop :=
  ∃ (j : Nat) (v : Value) (u : List (Nat × Blk)), Out v u ∧ n ≤ j ∧ vresult s rs = some (renV (toF (fun k => (k, 0)) n j) v) ∧ bdV (n + 1) v = true ∧
    (∀ x ∈ u, (∃ b, s.h (toF (fun k => (k, 0)) n j x.1).1 = some b ∧ SubB (toF (fun k => (k, 0)) n j) 0 x.2 b ∧ b.own = true) ∧ bdB (n + 1) x.2 = true ∧ (x.1 = n ∨ (x.1 < n ∧ ∃ y ∈ hp, y.1 = x.1 ∧ y.2.own = true))) ∧
    (u.map (·.1)).Nodup ∧ (∀ x ∈ hp, x.2.own = true → x.1 ∈ u.map (·.1)) ∧ (n ∈ u.map (·.1) ∨ s.n ≤ j)

theorem fc_of {g N : Nat} {fn : Func} {c : Code} {vs : List Value} {Out : Value → List (Nat × Blk) → Prop} (hp : List (Nat × Blk)) (n : Nat) (hf : P.funcs[g]? = some fn) (hb : fn.body = some c) (hn : fn.ntmps = N) (hg : goodF g = true) (hN : vs.length ≤ N)
    (hbd : bdL n vs = true) (hpn : bdH n hp = true) (hall : ∀ k, k < n → ∃ x ∈ hp, x.1 = k)
    (h : VC (B := n) N c (fun e s' => (e = .normal ∨ e = .ret) ∧ Res n hp fn.results.toList Out s') ⟨enter vs, updH (fun _ => none) hp, n⟩) : FC g vs n hp Out := by
  refine ⟨hg, fun M ρ h0 w f m vs' hR hH hm hrel => ?_⟩
  refine calls_of_wp hf hb ?_
  rw [hn]
  obtain ⟨M', hM'⟩ : ∃ M' : Nat → Prop, M' = fun r => w.heap.size ≤ r ∨ ∃ x ∈ hp, x.2.own = true ∧ ∃ o, ρ (f x.1).1 = some (r, o) := ⟨_, rfl⟩
  have hM : ∀ r, M' r → M r := by
    intro r hr
    rw [hM'] at hr
    rcases hr with hr | ⟨x, hx, ho, o, hr⟩
    · exact hH.new r hr
    · obtain ⟨b, h1, h2⟩ := hR.1 x hx
      obtain ⟨r', o', h3, _, h4⟩ := hH.blk _ _ h1
      rw [hr] at h3
      cases h3
      exact h4 (h2.own ho).1
  have real : ∀ x ∈ hp, ∃ r o, ρ (f x.1).1 = some (r, o) := fun x hx => by
    obtain ⟨b, h1, _⟩ := hR.1 x hx
    obtain ⟨r, o, h3, _⟩ := hH.blk _ _ h1
    exact ⟨r, o, h3⟩
  have hrel' : RelL (resV ρ f n) vs vs' := by
    refine ⟨?_, fun i x x' hx hx' => ?_⟩
    · rw [← hrel.1, renL_length]
    · exact Rel.ren (hrel.2 i _ x' (by rw [renL_get, hx]; rfl) hx') x rfl (bdL_get hbd hx)
  have hH' : RH M' (resV ρ f n) (updH (fun _ => none) hp) w := by
    refine ⟨fun k b hk => ?_, fun k k' b b' r o r' o' hk hk' hne hown h1 h2 => ?_, fun r hr => by rw [hM']; exact .inl hr⟩
    · have hx := updH_mem hk
      obtain ⟨b1, h1, h2⟩ := hR.1 _ hx
      obtain ⟨r, o, h3, h4, h5⟩ := hH.blk _ _ h1
      obtain ⟨h6, h7⟩ := bdH_mem hpn _ hx
      exact ⟨r, o + (f k).2, by simp only [resV, if_pos h6, h3, Option.map_some], h4.sub h2 h7, fun ho => by rw [hM']; exact .inr ⟨_, hx, ho, o, h3⟩⟩
    · have hx := updH_mem hk
      have hy := updH_mem hk'
      obtain ⟨b1, d1, d2⟩ := hR.1 _ hx
      obtain ⟨b2, e1, e2⟩ := hR.1 _ hy
      obtain ⟨r1, o1, q1⟩ := real _ hx
      obtain ⟨r2, o2, q2⟩ := real _ hy
      simp only at q1 q2
      have l1 := (bdH_mem hpn _ hx).1
      have l2 := (bdH_mem hpn _ hy).1
      simp only [resV, if_pos l1, q1, Option.map_some, Option.some.injEq, Prod.mk.injEq] at h1
      simp only [resV, if_pos l2, q2, Option.map_some, Option.some.injEq, Prod.mk.injEq] at h2
      rw [← h1.1, ← h2.1]
      exact hH.inj _ _ _ _ r1 o1 r2 o2 d1 e1 (hR.2 _ hx _ hy hne hown) (d2.own hown).1 q1 q2
  have hrr := enter_rr (M := M') (N := N) (n := n) (h := updH (fun _ => none) hp) (w := w) hrel' hN hH' (fun k hk => if_neg (by omega))
  refine wp_mono (h _ _ _ _ _ hrr) ?_
  rintro e a' w' ⟨ρ', s1, hE, hr1, he, j, v, u, hO, hj, hv, hbv, hu, hnd, hcov, hor⟩
  obtain ⟨v', h5, h6⟩ := vresult_sound hr1 hv
  -- the names
  have inn : ∀ k, k < n → ∃ r o, ρ (f k).1 = some (r, o) ∧ ρ' k = some (r, o + (f k).2) := by
    intro k hk
    obtain ⟨x, hx, rfl⟩ := hall k hk
    obtain ⟨r, o, h1⟩ := real x hx
    exact ⟨r, o, h1, hE _ _ hk (by simp only [resV, if_pos hk, h1, Option.map_some])⟩
  have hF : ∀ k r o, k < n + 1 → resV ρ' (toF (fun k => (k, 0)) n j) (n + 1) k = some (r, o) → ∃ o0, upd ρ m (ρ' j) (toF f n m k).1 = some (r, o0) ∧ o = o0 + (toF f n m k).2 := by
    intro k r o hk hs
    simp only [resV, if_pos hk] at hs
    by_cases e : k = n
    · subst e
      simp only [toF, if_true] at hs ⊢
      rw [upd_same]
      cases hq : ρ' j with
      | none => rw [hq] at hs; cases hs
      | some x =>
        rw [hq] at hs
        simp only [Option.map_some, Option.some.injEq, Prod.mk.injEq, Nat.add_zero] at hs
        exact ⟨x.2, by rw [← hs.1], by rw [← hs.2, Nat.add_zero]⟩
    · simp only [toF, if_neg e] at hs ⊢
      obtain ⟨r', o', q1, q2⟩ := inn k (by omega)
      rw [q2] at hs
      simp only [Option.map_some, Option.some.injEq, Prod.mk.injEq, Nat.add_zero] at hs
      have hne : (f k).1 ≠ m := fun e' => by rw [e', hm] at q1; cases q1
      rw [upd_ne _ _ hne]
      exact ⟨o', by rw [q1, hs.1], by rw [← hs.2]⟩
  have hres : Rel (upd ρ m (ρ' j)) (renV (toF f n m) v) v' := (Rel.ren h6 v rfl hbv).fwd hF hbv
  -- each block that is told
  have told : ∀ x ∈ u, ∃ r, upd ρ m (ρ' j) (toF f n m x.1).1 = some (r, 0) ∧ ρ' (toF (fun k => (k, 0)) n j x.1).1 = some (r, 0) ∧ RObj (upd ρ m (ρ' j)) (renB (toF f n m) x.2) 0 w'.heap[r]? ∧ M' r := by
    intro x hx
    obtain ⟨⟨b1, d1, d2, d3⟩, d4, d5⟩ := hu x hx
    obtain ⟨r, o, e1, e2, e3⟩ := hr1.heap.blk _ _ d1
    have := e2.own0 d3
    subst this
    have hlt : x.1 < n + 1 := by rcases d5 with d5 | d5 <;> omega
    have hz : (toF (fun k => (k, 0)) n j x.1).2 = 0 := by unfold toF; split <;> rfl
    have hs : resV ρ' (toF (fun k => (k, 0)) n j) (n + 1) x.1 = some (r, 0) := by simp only [resV, if_pos hlt, e1, Option.map_some, hz]
    obtain ⟨o0, f1, f2⟩ := hF _ _ _ hlt hs
    have : o0 = 0 := by omega
    subst this
    have f3 := e2.sub d2 d4
    exact ⟨r, f1, e1, f3.fwd hF d4, e3 d3⟩
  have hnames : ((renU (toF f n m) u).map (·.1)).Nodup := by
    have key : ∀ (u : List (Nat × Blk)), (u.map (·.1)).Nodup → (∀ x ∈ u, x.1 = n ∨ (x.1 < n ∧ ∃ y ∈ hp, y.1 = x.1 ∧ y.2.own = true)) → ((renU (toF f n m) u).map (·.1)).Nodup := by
      intro u
      induction u with
      | nil => intro _ _; simp [renU]
      | cons x u ih =>
        intro h1 h2
        obtain ⟨k, b⟩ := x
        simp only [List.map_cons, List.nodup_cons] at h1
        simp only [renU, List.map_cons, List.nodup_cons]
        refine ⟨fun hmem => ?_, ih h1.2 fun x hx => h2 x (by simp [hx])⟩
        obtain ⟨y, hy, e⟩ := List.mem_map.1 hmem
        obtain ⟨z, hz, rfl⟩ := renU_mem hy
        simp only at e
        have hkz : k ≠ z.1 := fun e' => h1.1 (List.mem_map.2 ⟨z, hz, e'.symm⟩)
        have hk := h2 (k, b) (by simp)
        have hzz := h2 z (by simp [hz])
        simp only at hk
        rcases hk with rfl | ⟨hk, y1, g1, g2, g3⟩
        · rcases hzz with e' | ⟨hz', _⟩
          · exact hkz e'.symm
          · simp only [toF, if_true, if_neg (Ne.symm hkz)] at e
            obtain ⟨r, o, q1, _⟩ := inn z.1 hz'
            rw [e, hm] at q1
            cases q1
        · rcases hzz with e' | ⟨hz', y2, g4, g5, g6⟩
          · simp only [toF, if_neg (show k ≠ n by omega), e', if_true] at e
            obtain ⟨r, o, q1, _⟩ := inn k hk
            rw [← e, hm] at q1
            cases q1
          · simp only [toF, if_neg (show k ≠ n by omega), if_neg (show z.1 ≠ n by omega)] at e
            refine hR.2 y1 g1 y2 g4 (by rw [g2, g5]; exact hkz) g3 ?_
            rw [g2, g5]
            exact e.symm
    exact key u hnd fun x hx => (hu x hx).2.2
  have covered : ∀ x ∈ hp, x.2.own = true → ∃ z ∈ u, z.1 = x.1 := fun x hx ho => by
    obtain ⟨z, h1, h2⟩ := List.mem_map.1 (hcov x hx ho)
    exact ⟨z, h1, h2⟩
  have old : ∀ k b, h0 k = some b → k ∉ (renU (toF f n m) u).map (·.1) → ∃ r o, ρ k = some (r, o) ∧ upd ρ m (ρ' j) k = some (r, o) ∧ RObj ρ b o w.heap[r]? ∧ (b.own = true → M r) ∧ ¬ M' r ∧ r < w.heap.size := by
    intro k b hk hnk
    obtain ⟨r, o, h1, h2, h3⟩ := hH.blk k b hk
    have hne : k ≠ m := fun e' => by rw [e', hm] at h1; cases h1
    have hlt := hH.lt hk h1
    refine ⟨r, o, h1, by rw [upd_ne _ _ hne]; exact h1, h2, h3, fun hr => ?_, hlt⟩
    rw [hM'] at hr
    rcases hr with hr | ⟨x, hx, ho, o', hr⟩
    · omega
    · obtain ⟨z, hz, e⟩ := covered x hx ho
      obtain ⟨b1, d1, d2⟩ := hR.1 x hx
      have hxn := (bdH_mem hpn _ hx).1
      have hzm := List.mem_map_of_mem (f := (·.1)) (renU_of (f := toF f n m) hz)
      simp only [toF, e, if_neg (show x.1 ≠ n by omega)] at hzm
      exact hH.inj _ _ _ _ r o' r o d1 hk (fun e' => hnk (e' ▸ hzm)) (d2.own ho).1 hr h1 rfl
  have hRH : RH M (upd ρ m (ρ' j)) (updL h0 (renU (toF f n m) u)) w' := by
    refine ⟨fun k b hk => ?_, fun k1 k2 b1 b2 r1 o1 r2 o2 hk1 hk2 hne hown q1 q2 => ?_, fun r hr => hH.new r (Nat.le_trans hr1.kept.size hr)⟩
    · rcases updL_cases hnames hk with hmem | ⟨hnk, hk⟩
      · obtain ⟨x, hx, e⟩ := renU_mem hmem
        cases e
        obtain ⟨r, d1, d2, d3, d4⟩ := told x hx
        exact ⟨r, 0, d1, d3, fun _ => hM r d4⟩
      · obtain ⟨r, o, d1, d2, d3, d4, d5, _⟩ := old k b hk hnk
        exact ⟨r, o, d2, by rw [hr1.kept.block r d5]; exact d3.ext (Ext.upd hm _), d4⟩
    · rcases updL_cases hnames hk1 with m1 | ⟨n1, k1'⟩
      · obtain ⟨x, hx, e⟩ := renU_mem m1
        cases e
        obtain ⟨rx, d1, d2, d3, d4⟩ := told x hx
        rw [q1] at d1
        cases d1
        obtain ⟨⟨bx, bx1, bx2, bx3⟩, _, bx5⟩ := hu x hx
        rcases updL_cases hnames hk2 with m2 | ⟨n2, k2'⟩
        · obtain ⟨y, hy, e⟩ := renU_mem m2
          cases e
          obtain ⟨ry, e1, e2, e3, e4⟩ := told y hy
          rw [q2] at e1
          cases e1
          obtain ⟨⟨by0, by1, by2, by3⟩, _, by5⟩ := hu y hy
          refine hr1.heap.inj _ _ _ _ _ _ _ _ bx1 by1 (fun e => hne ?_) bx3 d2 e2
          have hxy : x.1 = y.1 := by
            unfold toF at e
            rcases bx5 with bx5 | ⟨bx5, _⟩ <;> rcases by5 with by5 | ⟨by5, _⟩
            · omega
            · rw [if_pos bx5, if_neg (by omega)] at e; simp only at e; omega
            · rw [if_neg (by omega), if_pos by5] at e; simp only at e; omega
            · rw [if_neg (by omega), if_neg (by omega)] at e; exact e
          rw [hxy]
        · obtain ⟨r, o, e1, e2, e3, e4, e5, e6⟩ := old k2 b2 k2' n2
          rw [q2] at e2
          cases e2
          intro heq
          subst heq
          exact e5 d4
      · obtain ⟨r, o, e1, e2, e3, e4, e5, e6⟩ := old k1 b1 k1' n1
        rw [q1] at e2
        cases e2
        rcases updL_cases hnames hk2 with m2 | ⟨n2, k2'⟩
        · obtain ⟨y, hy, e⟩ := renU_mem m2
          cases e
          obtain ⟨ry, g1, g2, g3, g4⟩ := told y hy
          rw [q2] at g1
          cases g1
          intro heq
          subst heq
          exact e5 g4
        · obtain ⟨r', o', g1, g2, g3, g4, g5, g6⟩ := old k2 b2 k2' n2
          rw [q2] at g2
          cases g2
          exact hH.inj k1 k2 b1 b2 _ _ _ _ k1' k2' hne hown e1 g1
  have final : ∃ x, (results fn a'.tmps).run P w' = .ok x w' ∧ ∃ v v' u ρ', Out v u ∧ Ending.returned x = .returned v' ∧ Ext ρ ρ' ∧ Rel ρ' (renV (toF f n m) v) v' ∧ RH M ρ' (updL h0 (renU (toF f n m) u)) w' ∧ Kept M w w' ∧
      (∀ x ∈ renU (toF f n m) u, x.1 = m ∨ ρ x.1 ≠ none) ∧ ∀ k, ρ k = none → k ∉ (renU (toF f n m) u).map (·.1) → ρ' k = none := by
    refine ⟨v', h5, v, v', u, _, hO, rfl, Ext.upd hm _, hres, hRH, hr1.kept.mono hM, fun y hy => ?_, fun k hk hnk => ?_⟩
    · obtain ⟨x, hx, rfl⟩ := renU_mem hy
      rcases (hu x hx).2.2 with e | ⟨hx', _⟩
      · left; simp only [toF, e, if_true]
      · right
        obtain ⟨r, o, q1, _⟩ := inn x.1 hx'
        simp only [toF, if_neg (show x.1 ≠ n by omega), q1]
        exact fun h => by cases h
    · by_cases e : k = m
      · subst e
        rw [upd_same]
        rcases hor with hin | hge
        · obtain ⟨z, hz, e⟩ := List.mem_map.1 hin
          have hzm := List.mem_map_of_mem (f := (·.1)) (renU_of (f := toF f n k) hz)
          simp only [toF, e, if_true] at hzm
          exact absurd hzm hnk
        · exact hr1.fresh j hge
      · rw [upd_ne _ _ e]; exact hk
  rcases he with rfl | rfl
  · exact ⟨hr1.defers, final⟩
  · exact ⟨hr1.defers, final⟩

end Go.Proofs.Ytdfkcijholopoaa.Vm
