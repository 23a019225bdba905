/- A region that draws its order: the theorem. -/
import Derived.Test.YtdfkcijholopoaaVm10
namespace Go.Proofs.Ytdfkcijholopoaa.Vm
open Go
set_option linter.unusedSimpArgs false

/-! ### What stands ahead of what -/
theorem bit_fold {b : Edge → Bool} {acc : Array Nat} : ∀ (l : List Edge) (s0 j : Nat), (l.foldl (fun s e => if b e = true then s ||| 2 ^ e.on ||| acc.getD e.on 0 else s) s0).testBit j = true →
    s0.testBit j = true ∨ ∃ e ∈ l, b e = true ∧ (j = e.on ∨ (acc.getD e.on 0).testBit j = true)
  | [], s0, j, h => .inl h
  | e :: l, s0, j, h => by
    rw [List.foldl_cons] at h
    rcases bit_fold l _ j h with h1 | ⟨e', h1, h2, h3⟩
    · by_cases hb : b e = true
      · rw [if_pos hb] at h1
        rw [Nat.testBit_or, Nat.testBit_or, Bool.or_eq_true, Bool.or_eq_true, Nat.testBit_two_pow] at h1
        rcases h1 with (h1 | h1) | h1
        · exact .inl h1
        · exact .inr ⟨e, by simp, hb, .inl (by simpa using (of_decide_eq_true h1).symm)⟩
        · exact .inr ⟨e, by simp, hb, .inr h1⟩
      · rw [if_neg hb] at h1
        exact .inl h1
    · exact .inr ⟨e', by simp [h1], h2, h3⟩

theorem before_sound {ops : Array Oper} {L : Nat → Prop} (hL : ∀ (i : Nat) (o : Oper), ops[i]? = some o → L i → ∀ e ∈ o.after, Region.binds .any e = true → L e.on)
    {i j : Nat} {o : Oper} (ho : ops[i]? = some o) (hd : ∀ e ∈ o.after, Region.binds .any e = true → L e.on) (hb : ((Region.before ops).getD i 0).testBit j = true) : L j := by
  have key : ∀ (l : List Oper) (k : Nat) (acc : Array Nat), (∀ n, l[n]? = ops[k + n]?) → acc.size = k →
      (∀ i o j, ops[i]? = some o → (∀ e ∈ o.after, Region.binds .any e = true → L e.on) → (acc.getD i 0).testBit j = true → L j) →
      ∀ i o j, ops[i]? = some o → (∀ e ∈ o.after, Region.binds .any e = true → L e.on) →
        ((l.foldl (fun acc o => acc.push (o.after.foldl (fun s e => if Region.binds .any e = true then s ||| 2 ^ e.on ||| acc.getD e.on 0 else s) 0)) acc).getD i 0).testBit j = true → L j := by
    intro l
    induction l with
    | nil => intro k acc _ _ h; exact h
    | cons x l ih =>
      intro k acc hl hs h
      rw [List.foldl_cons]
      refine ih (k + 1) _ (fun n => by have := hl (n + 1); simpa [Nat.add_assoc, Nat.add_comm 1 n] using this) (by simp [hs]) ?_
      intro i o j ho hd hb
      have hx : ops[k]? = some x := by simpa using (hl 0).symm
      by_cases hi : i = k
      · subst hi
        rw [hx] at ho
        cases ho
        have this : ∀ v : Nat, (acc.push v).getD i 0 = v := by
          intro v
          rw [← hs, Array.getD_eq_getD_getElem?, Array.getElem?_push_size]
          rfl
        rw [this, ← Array.foldl_toList] at hb
        rcases bit_fold _ _ _ hb with h0 | ⟨e, he, hbe, h1⟩
        · simp at h0
        · have he' : e ∈ x.after := by simpa using he
          have hLe := hd e he' hbe
          rcases h1 with rfl | h1
          · exact hLe
          · cases hoe : ops[e.on]? with
            | none =>
              have : acc.getD e.on 0 = 0 := by
                have h2 : ops.size ≤ e.on := Array.getElem?_eq_none_iff.1 hoe
                have h3 : i < ops.size := (Array.getElem?_eq_some_iff.1 hx).1
                simp [Array.getD_eq_getD_getElem?, Array.getElem?_eq_none (show acc.size ≤ e.on by omega)]
              rw [this] at h1
              simp at h1
            | some oe => exact h e.on oe j hoe (hL e.on oe hoe hLe) h1
      · have : (acc.push (x.after.foldl (fun s e => if Region.binds .any e = true then s ||| 2 ^ e.on ||| acc.getD e.on 0 else s) 0)).getD i 0 = acc.getD i 0 := by
          simp only [Array.getD_eq_getD_getElem?, Array.getElem?_push]
          rw [if_neg (by omega)]
        rw [this] at hb
        exact h i o j ho hd hb
  have hbef : Region.before ops = ops.toList.foldl (fun acc o => acc.push (o.after.foldl (fun s e => if Region.binds .any e = true then s ||| 2 ^ e.on ||| acc.getD e.on 0 else s) 0)) #[] := by
    unfold Region.before
    rw [← Array.foldl_toList]
  rw [hbef] at hb
  exact key ops.toList 0 #[] (by simp) rfl (fun i o j _ _ h => by simp at h) i o j ho hd hb

def indB (ops : Array Oper) (U : List (Nat × Nat)) (j i : Nat) : Bool :=
  Oper.apart ops (ops.getD j default) (ops.getD i default) && (comm (kd (ops.getD j default).op) (kd (ops.getD i default).op) || U.contains (j, i)) &&
    !(kd (ops.getD j default).op == .sp && kd (ops.getD i default).op == .sp)

def goodR (ops : Array Oper) (U : List (Nat × Nat)) : Bool :=
  (List.range ops.size).all fun i =>
    ((ops.getD i default).after.toList.all fun e => !Region.binds .any e || decide (e.on < i)) &&
    ((List.range i).all fun j => ((Region.before ops).getD i 0).testBit j || indB ops U j i)

theorem goodR_spec {ops : Array Oper} {U : List (Nat × Nat)} (h : goodR ops U = true) {i : Nat} {o : Oper} (ho : ops[i]? = some o) :
    (∀ e ∈ o.after, Region.binds .any e = true → e.on < i) ∧ ∀ j oj, j < i → ops[j]? = some oj → ((Region.before ops).getD i 0).testBit j = true ∨ Ind ops U j oj i o := by
  have hi : i < ops.size := (Array.getElem?_eq_some_iff.1 ho).1
  have hd : ops.getD i default = o := by rw [Array.getD_eq_getD_getElem?, ho]; rfl
  unfold goodR at h
  rw [List.all_eq_true] at h
  have h1 := h i (by simpa using hi)
  rw [Bool.and_eq_true, List.all_eq_true, List.all_eq_true, hd] at h1
  refine ⟨fun e he hb => ?_, fun j oj hj hoj => ?_⟩
  · have := h1.1 e (by simpa using he)
    simpa [hb] using this
  · have h2 := h1.2 j (by simpa using hj)
    have hdj : ops.getD j default = oj := by rw [Array.getD_eq_getD_getElem?, hoj]; rfl
    rw [Bool.or_eq_true] at h2
    refine h2.imp id fun h3 => ?_
    unfold indB at h3
    rw [hdj, hd] at h3
    simp only [Bool.and_eq_true, Bool.or_eq_true, Bool.not_eq_true', Bool.and_eq_false_iff, beq_eq_false_iff_ne, ne_eq, List.contains_iff_mem] at h3
    refine ⟨h3.1.1, h3.1.2, fun hs => ?_⟩
    rcases h3.2 with h4 | h4
    · exact h4 hs.1
    · exact h4 hs.2

/-- WHATEVER ORDER IS PICKED: the run in the order of the text serves it. -/
theorem any_of_vlex {M : Nat → Prop} {w0 : World} {N : Nat} {ops : Array Oper} {U : List (Nat × Nat)} {base : Nat} {K : St → Prop} {Q : Exit → Act → World → Prop} (hg : goodR ops U = true) (hok : ∀ (i : Nat) (o : Oper), ops[i]? = some o → okOp N o = true) {ρ0 : Nat → Option (Nat × Nat)}
    (hQ : ∀ ρ' s' a' w', Ext ρ0 ρ' → RR M w0 N (fun m => s'.n ≤ m) ρ' s' a' w' → K s' → Q .normal a' w') :
    ∀ (fuel : Nat) (rem : List (Nat × Oper)) (listed : Array Bool) (ρ : Nat → Option (Nat × Nat)) (s : St) (a : Act) (w : World), rem.length = fuel → listed.size = ops.size →
      (∀ x ∈ rem, ops[x.1]? = some x.2 ∧ listed.getD x.1 true = false) → (∀ k, k < ops.size → listed.getD k true = false → ∃ o, (k, o) ∈ rem) → rem.Pairwise (fun x y => x.1 < y.1) →
      (∀ (i : Nat) (o : Oper), ops[i]? = some o → listed.getD i false = true → ∀ e ∈ o.after, Region.binds .any e = true → listed.getD e.on false = true) →
      Ext ρ0 ρ → RR M w0 N (fun m => s.n ≤ m ∨ ∃ k, m = base + k ∧ k < ops.size ∧ listed.getD k true = false) ρ s a w → vlex ops U base rem [] s K → wpAny P .any ops Q fuel listed a w := by
  intro fuel
  have tf : ∀ {listed : Array Bool} {k : Nat}, k < listed.size → (listed.getD k true = false ∨ listed.getD k false = true) := by
    intro listed k hk
    simp only [Array.getD_eq_getD_getElem?, Array.getElem?_eq_getElem hk, Option.getD_some]
    cases listed[k] <;> simp
  have tf' : ∀ {listed : Array Bool} {k : Nat}, listed.getD k true = false → listed.getD k false = true → False := by
    intro listed k h1 h2
    rcases Nat.lt_or_ge k listed.size with hk | hk
    · simp only [Array.getD_eq_getD_getElem?, Array.getElem?_eq_getElem hk, Option.getD_some] at h1 h2
      rw [h1] at h2; cases h2
    · simp [Array.getD_eq_getD_getElem?, Array.getElem?_eq_none hk] at h1
  -- the first that is left may come up
  have first : ∀ {k0 : Nat} {o0 : Oper} {rest : List (Nat × Oper)} {listed : Array Bool}, listed.size = ops.size → (∀ x ∈ (k0, o0) :: rest, ops[x.1]? = some x.2 ∧ listed.getD x.1 true = false) →
      (∀ k, k < ops.size → listed.getD k true = false → ∃ o, (k, o) ∈ (k0, o0) :: rest) → ((k0, o0) :: rest).Pairwise (fun x y => x.1 < y.1) → k0 ∈ Region.ready .any ops listed := by
    intro k0 o0 rest listed hsz hrem hall hpw
    obtain ⟨h1, h2⟩ := hrem (k0, o0) (by simp)
    refine mem_ready.2 ⟨h2, o0, h1, fun e he hb => ?_⟩
    have hlt := (goodR_spec hg h1).1 e he hb
    simp only at hlt h1
    have hk0 : k0 < ops.size := (Array.getElem?_eq_some_iff.1 h1).1
    rcases tf (listed := listed) (k := e.on) (by omega) with h3 | h3
    · obtain ⟨o', h4⟩ := hall e.on (by omega) h3
      rcases List.mem_cons.1 h4 with h5 | h5
      · cases h5; omega
      · have := (List.pairwise_cons.1 hpw).1 _ h5
        simp only at this
        omega
    · exact h3
  induction fuel with
  | zero =>
    intro rem listed ρ s a w hlen hsz hrem hall hpw hcl he hr hv
    have : rem = [] := List.length_eq_zero_iff.1 hlen
    subst this
    refine ⟨?_, hQ ρ s a w he (hr.mono fun m hm => .inl hm) hv⟩
    rw [List.eq_nil_iff_forall_not_mem]
    intro i hi
    obtain ⟨h1, o, h2, _⟩ := mem_ready.1 hi
    obtain ⟨o', h3⟩ := hall i (Array.getElem?_eq_some_iff.1 h2).1 h1
    cases h3
  | succ fuel ih =>
    intro rem listed ρ s a w hlen hsz hrem hall hpw hcl he hr hv
    refine ⟨fun h0 => ?_, fun i hi => ?_⟩
    · cases rem with
      | nil => cases hlen
      | cons x rest =>
        have := first hsz hrem hall hpw
        rw [h0] at this
        cases this
    · obtain ⟨h1, o, h2, h3⟩ := mem_ready.1 hi
      have hilt : i < ops.size := (Array.getElem?_eq_some_iff.1 h2).1
      obtain ⟨o', h4⟩ := hall i hilt h1
      have h5 := (hrem _ h4).1
      simp only at h5
      rw [h2] at h5
      cases h5
      obtain ⟨pre, post, rfl⟩ := List.append_of_mem h4
      have hpre : ∀ x ∈ pre, Ind ops U x.1 x.2 i o := by
        intro x hx
        obtain ⟨h6, h7⟩ := hrem x (by simp [hx])
        have hlt : x.1 < i := by
          have := (List.pairwise_append.1 hpw).2.2 x hx (i, o) (by simp)
          simpa using this
        rcases (goodR_spec hg h2).2 x.1 x.2 hlt h6 with h8 | h8
        · exact (tf' h7 (before_sound (L := fun k => listed.getD k false = true) (fun i o ho hl e he hb => hcl i o ho hl e he hb) h2 h3 h8)).elim
        · exact h8
      have hdis : Dis ops base i o s (fun s' => vlex ops U base (pre ++ post) [] s' K) := by
        rcases pull pre [] s hpre hv with ⟨rd, v, u, d1, _, d3⟩ | ⟨_, e1, rd, Out, e2, _, e4⟩
        · exact .inl ⟨rd, v, u, d1, d3⟩
        · exact .inr ⟨e1, rd, Out, e2, fun v u hu => (e4 v u hu).2⟩
      unfold wpOp
      rw [h2]
      simp only
      refine dis_step (Q := Q) hdis hr (.inr ⟨i, rfl, hilt, h1⟩) (hok i o h2) ?_
      · intro ρ' v u a' w' he' hu hr' hv'
        have hset : ∀ k, k ≠ i → (listed.setIfInBounds i true).getD k true = listed.getD k true := fun k hk => getD_set_ne true (Ne.symm hk)
        have hset' : ∀ k, k ≠ i → (listed.setIfInBounds i true).getD k false = listed.getD k false := fun k hk => getD_set_ne false (Ne.symm hk)
        have hseti : (listed.setIfInBounds i true).getD i true = true := by
          simp [Array.getD_eq_getD_getElem?, hsz, hilt]
        have hne : ∀ x ∈ pre ++ post, x.1 ≠ i := by
          intro x hx
          rcases List.mem_append.1 hx with hx | hx
          · have := (List.pairwise_append.1 hpw).2.2 x hx (i, o) (by simp)
            simp only at this
            omega
          · have := (List.pairwise_cons.1 (List.pairwise_append.1 hpw).2.1).1 x hx
            simp only at this
            omega
        refine ih (pre ++ post) (listed.setIfInBounds i true) ρ' (s.app o.dst v u) a' w' (by simp at hlen ⊢; omega) (by simpa using hsz) ?_ ?_ ?_ ?_ (he.trans he') ?_ hv'
        · intro x hx
          obtain ⟨h6, h7⟩ := hrem x (by rcases List.mem_append.1 hx with hx | hx <;> simp [hx])
          exact ⟨h6, by rw [hset _ (hne x hx)]; exact h7⟩
        · intro k hk hl
          have hki : k ≠ i := fun e => by subst e; rw [hseti] at hl; cases hl
          rw [hset k hki] at hl
          obtain ⟨o', h6⟩ := hall k hk hl
          refine ⟨o', ?_⟩
          rcases List.mem_append.1 h6 with h7 | h7
          · exact List.mem_append_left _ h7
          · rcases List.mem_cons.1 h7 with h8 | h8
            · cases h8; exact absurd rfl hki
            · exact List.mem_append_right _ h8
        · rw [List.pairwise_append] at hpw ⊢
          exact ⟨hpw.1, (List.pairwise_cons.1 hpw.2.1).2, fun x hx y hy => hpw.2.2 x hx y (by simp [hy])⟩
        · intro k ok hok' hl e hee hb
          by_cases hki : k = i
          · subst hki
            rw [h2] at hok'
            cases hok'
            exact getD_set_true (h3 e hee hb)
          · rw [hset' k hki] at hl
            exact getD_set_true (hcl k ok hok' hl e hee hb)
        · refine hr'.mono fun m hm => ?_
          rcases hm with hm | ⟨k, hk, hlt, hl⟩
          · have hm' : bump s.n u ≤ m := hm
            refine ⟨.inl (by have := le_bump u s.n; omega), fun hmem => ?_⟩
            obtain ⟨x, hx, rfl⟩ := List.mem_map.1 hmem
            have := lt_bump (n := s.n) hx
            omega
          · have hki : k ≠ i := fun e => by subst e; rw [hseti] at hl; cases hl
            rw [hset k hki] at hl
            have hf : s.n ≤ m ∨ ∃ k, m = base + k ∧ k < ops.size ∧ listed.getD k true = false := .inr ⟨k, hk, hlt, hl⟩
            refine ⟨hf, fun hmem => ?_⟩
            obtain ⟨x, hx, rfl⟩ := List.mem_map.1 hmem
            rcases hu x hx with h | h
            · omega
            · exact h hf

end Go.Proofs.Ytdfkcijholopoaa.Vm
