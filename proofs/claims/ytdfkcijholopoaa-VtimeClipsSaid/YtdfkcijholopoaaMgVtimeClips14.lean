/- What the proofs stand on, in one text: Pa, Vm31, Vm32, Nb. -/
import Derived.Test.YtdfkcijholopoaaMg12
import Derived.Test.YtdfkcijholopoaaMg4
namespace Go.Proofs.Ytdfkcijholopoaa.Vm
open Go Go.RowKit
set_option linter.unusedSimpArgs false
set_option linter.unusedVariables false

/-- Far behind the top x. -/
def clG (x : Nat × Nat) (r : Rn) : Bool := bh r.n r.w x.1 x.2 SLK
def clR (x : Nat × Nat) (r : Rn) : Rn := if clG x r = true then { r with n := farN x.1 x.2 r.w } else r
/-- What it would be raised to is no fraction. -/
def clB (x : Nat × Nat) (r : Rn) : Bool := clG x r && !decide (farN x.1 x.2 r.w < 2 ^ 100)
def clQ (x : Nat × Nat) (l : List Rn) : List Rn := l.map (clR x)
def clI (x : Nat × Nat) (l : List Rn) : List Int := (l.filter (clG x)).map Rn.id

theorem clR_yes {x : Nat × Nat} {r : Rn} (h : clG x r = true) : clR x r = { r with n := farN x.1 x.2 r.w } := if_pos h
theorem clR_no {x : Nat × Nat} {r : Rn} (h : clG x r = false) : clR x r = r := if_neg (by rw [h]; simp)
theorem clR_id (x : Nat × Nat) (r : Rn) : (clR x r).id = r.id := by unfold clR; split <;> rfl
theorem clR_each (x : Nat × Nat) (r : Rn) : (clR x r).each = r.each := by unfold clR; split <;> rfl
theorem clR_w (x : Nat × Nat) (r : Rn) : (clR x r).w = r.w := by unfold clR; split <;> rfl
theorem clB_no {x : Nat × Nat} {r : Rn} (h : clG x r = true) (hb : clB x r = false) : farN x.1 x.2 r.w < 2 ^ 100 := by
  simpa [clB, h] using hb
theorem clB_yes {x : Nat × Nat} {r : Rn} (hb : clB x r = true) : clG x r = true ∧ ¬ farN x.1 x.2 r.w < 2 ^ 100 := by
  simpa [clB] using hb

theorem far_ge' {a v w : Nat} (hv : 0 < v) : (a - SLK * v) * w ≤ farN a v w * v := sc_ge' hv
theorem far_not {a v w : Nat} (hv : 0 < v) : bh (farN a v w) w a v SLK = false := by
  have := far_ge' (a := a) (w := w) hv
  rw [bh, decide_eq_false_iff_not]
  omega
theorem far_up {n w a v : Nat} (hv : 0 < v) (h : bh n w a v SLK = true) : n < farN a v w := by
  have h1 := far_ge' (a := a) (w := w) hv
  have h2 : n * v < (a - SLK * v) * w := by simpa [bh] using h
  exact Nat.lt_of_mul_lt_mul_right (Nat.lt_of_lt_of_le h2 h1)
theorem far_below {n w a v : Nat} (hv : 0 < v) (hw : 0 < w) (h : bh n w a v SLK = true) : farN a v w * v < a * w := by
  have h0 := far_up hv h
  have h1 := sc_pred' (a := a - SLK * v) (m := w) hv (show sc (a - SLK * v) w v true ≠ 0 from fun e => by rw [farN, e] at h0; omega)
  have h2 : (farN a v w - 1) * v < (a - SLK * v) * w := h1
  obtain ⟨k, hk⟩ : ∃ k, farN a v w = k + 1 := ⟨farN a v w - 1, by omega⟩
  rw [hk] at h2 ⊢
  rw [Nat.add_sub_cancel] at h2
  have h3 : 0 < a - SLK * v := by
    rcases Nat.eq_zero_or_pos (a - SLK * v) with e | e
    · rw [e, Nat.zero_mul] at h2; omega
    · exact e
  obtain ⟨X, hX⟩ : ∃ X, X = a - SLK * v := ⟨_, rfl⟩
  have ha : a = X + SLK * v := by omega
  rw [← hX] at h2
  rw [ha, Nat.add_mul X, Nat.succ_mul]
  have h4 : v ≤ SLK * v * w := by
    calc v = 1 * v * 1 := by simp
      _ ≤ SLK * v * w := Nat.mul_le_mul (Nat.mul_le_mul_right v (by decide)) hw
  omega
theorem now_below {n w a v : Nat} (hv : 0 < v) (hw : 0 < w) (h : bh n w a v SLK = true) : n * v < a * w :=
  Nat.lt_of_lt_of_le (Nat.mul_lt_mul_of_pos_right (far_up hv h) hv) (Nat.le_of_lt (far_below hv hw h))

theorem clG_clR {x : Nat × Nat} (hv : 0 < x.2) (r : Rn) : clG x (clR x r) = false := by
  cases h : clG x r with
  | true => rw [clR_yes h]; exact far_not hv
  | false => rw [clR_no h]; exact h
theorem clB_clR {x : Nat × Nat} (hv : 0 < x.2) (r : Rn) : clB x (clR x r) = false := by rw [clB, clG_clR hv]; rfl
theorem clQ_twice {x : Nat × Nat} (hv : 0 < x.2) (l : List Rn) : clQ x (clQ x l) = clQ x l := by
  unfold clQ
  rw [List.map_map]
  exact List.map_congr_left fun r _ => clR_no (clG_clR hv r)
theorem clI_twice {x : Nat × Nat} (hv : 0 < x.2) (l : List Rn) : clI x (clQ x l) = [] := by
  have : (clQ x l).filter (clG x) = [] := by
    rw [List.filter_eq_nil_iff]
    intro r hr
    obtain ⟨r0, _, rfl⟩ := List.mem_map.1 hr
    rw [clG_clR hv]
    simp
  rw [clI, this]
  rfl
theorem clQ_len (x : Nat × Nat) (l : List Rn) : (clQ x l).length = l.length := by simp [clQ]
theorem clQ_get {x : Nat × Nat} {l : List Rn} {i : Nat} {r : Rn} (h : l[i]? = some r) : (clQ x l)[i]? = some (clR x r) := by simp [clQ, h]

/-! ### The top is left. -/
/-- y is strictly below x. -/
def sbl (x y : Nat × Nat) : Prop := y.1 * x.2 < x.1 * y.2
def bel (x y : Nat × Nat) : Prop := y.1 * x.2 ≤ x.1 * y.2
theorem top1_cases (acc : Option (Nat × Nat)) (r : Rn) : (top1 acc r = (r.n, r.w) ∧ ∀ y, acc = some y → sbl (r.n, r.w) y) ∨ (∃ y, acc = some y ∧ top1 acc r = y ∧ bel y (r.n, r.w)) := by
  cases acc with
  | none => exact .inl ⟨rfl, fun y h => by cases h⟩
  | some y =>
    obtain ⟨a, v⟩ := y
    cases h : decide (cmpW (r.n * v) (a * r.w) > 0) with
    | true =>
      refine .inl ⟨top1_up h, fun y hy => ?_⟩
      cases hy
      have := cmpW_gt.1 (of_decide_eq_true h)
      exact this
    | false =>
      refine .inr ⟨_, rfl, top1_no h, ?_⟩
      have h1 := of_decide_eq_false h
      have h1 : ¬ (a * r.w < r.n * v) := fun h => h1 (cmpW_gt.2 h)
      show r.n * v ≤ a * r.w
      omega
theorem bel_trans {x y z : Nat × Nat} (hy : 0 < y.2) (h1 : bel y z) (h2 : bel x y) : bel x z := by
  unfold bel at *
  refine Nat.le_of_mul_le_mul_right (c := y.2) ?_ hy
  calc z.1 * x.2 * y.2 = z.1 * y.2 * x.2 := by ac_rfl
    _ ≤ y.1 * z.2 * x.2 := Nat.mul_le_mul_right _ h1
    _ = y.1 * x.2 * z.2 := by ac_rfl
    _ ≤ x.1 * y.2 * z.2 := Nat.mul_le_mul_right _ h2
    _ = x.1 * z.2 * y.2 := by ac_rfl
theorem sbl_of_lt_eq {x y z : Nat × Nat} (hx : 0 < x.2) (hz : 0 < z.2) (h1 : sbl x y) (h2 : bel z x) : sbl z y := by
  unfold sbl bel at *
  refine Nat.lt_of_mul_lt_mul_right (a := x.2) ?_
  calc y.1 * z.2 * x.2 = y.1 * x.2 * z.2 := by ac_rfl
    _ < x.1 * y.2 * z.2 := Nat.mul_lt_mul_of_pos_right h1 hz
    _ = x.1 * z.2 * y.2 := by ac_rfl
    _ ≤ z.1 * x.2 * y.2 := Nat.mul_le_mul_right _ h2
    _ = z.1 * y.2 * x.2 := by ac_rfl
theorem topS_max {x : Nat × Nat} : ∀ {l : List Rn} {acc : Option (Nat × Nat)}, (∀ r ∈ l, 0 < r.w) → (∀ y, acc = some y → 0 < y.2) → topS acc l = some x → (∀ y, acc = some y → bel x y) ∧ ∀ r ∈ l, bel x (r.n, r.w)
  | [], acc, _, _, h => ⟨fun y hy => by
      have : acc = some x := h
      rw [this] at hy
      cases hy
      exact Nat.le_refl _, fun r hr => by cases hr⟩
  | r :: l, acc, hl, ha, h => by
    have h' : topS (some (top1 acc r)) l = some x := h
    have hp : ∀ y, some (top1 acc r) = some y → 0 < y.2 := by
      intro y hy
      cases hy
      rcases top1_cases acc r with ⟨e, _⟩ | ⟨y, e1, e2, _⟩
      · rw [e]; exact hl r (by simp)
      · rw [e2]; exact ha y e1
    obtain ⟨h1, h2⟩ := topS_max (fun r hr => hl r (by simp [hr])) hp h'
    have h3 := h1 _ rfl
    have hp' := hp _ rfl
    rcases top1_cases acc r with ⟨e, e1⟩ | ⟨y, e1, e2, e3⟩
    · rw [e] at h3 hp'
      refine ⟨fun y hy => bel_trans hp' (Nat.le_of_lt (e1 y hy)) h3, fun s hs => ?_⟩
      rcases List.mem_cons.1 hs with rfl | hs
      · exact h3
      · exact h2 s hs
    · rw [e2] at h3 hp'
      refine ⟨fun z hz => ?_, fun s hs => ?_⟩
      · rw [e1] at hz; cases hz; exact h3
      · rcases List.mem_cons.1 hs with rfl | hs
        · exact bel_trans hp' e3 h3
        · exact h2 s hs
theorem top1_sbl {x : Nat × Nat} {acc : Option (Nat × Nat)} {r : Rn} (ha : ∀ y, acc = some y → sbl x y) (hr : sbl x (r.n, r.w)) : sbl x (top1 acc r) := by
  rcases top1_cases acc r with ⟨e, _⟩ | ⟨y, e1, e2, _⟩
  · rw [e]; exact hr
  · rw [e2]; exact ha y e1
theorem top1_new {acc : Option (Nat × Nat)} {r : Rn} (ha : ∀ y, acc = some y → sbl (r.n, r.w) y) : top1 acc r = (r.n, r.w) := by
  rcases top1_cases acc r with ⟨e, _⟩ | ⟨y, e1, e2, e3⟩
  · exact e
  · have := ha y e1
    unfold sbl bel at *
    simp only at *
    omega
theorem top1_old {z : Nat × Nat} {r : Rn} (h : sbl z (r.n, r.w)) : top1 (some z) r = z := by
  rcases top1_cases (some z) r with ⟨e, e1⟩ | ⟨y, e1, e2, e3⟩
  · have := e1 z rfl
    unfold sbl at *
    simp only at *
    omega
  · cases e1; exact e2
/-- Who is strictly below the top may be put elsewhere below it: the top stays. -/
theorem topS_map {x : Nat × Nat} (hx : 0 < x.2) {f : Rn → Rn} : ∀ {l : List Rn} {acc acc' : Option (Nat × Nat)}, (∀ r ∈ l, 0 < r.w) → (∀ y, acc = some y → 0 < y.2) → (∀ r ∈ l, f r = r ∨ (sbl x (r.n, r.w) ∧ sbl x ((f r).n, (f r).w))) →
    (acc = acc' ∨ ((∀ y, acc = some y → sbl x y) ∧ ∀ y, acc' = some y → sbl x y)) → topS acc l = some x → topS acc' (l.map f) = some x
  | [], acc, acc', _, _, _, hA, h => by
    have h' : acc = some x := h
    rcases hA with rfl | ⟨hA, _⟩
    · exact h
    · have := hA x h'
      unfold sbl at this
      omega
  | r :: l, acc, acc', hl, ha, hf, hA, h => by
    have h' : topS (some (top1 acc r)) l = some x := h
    have hp : ∀ y, some (top1 acc r) = some y → 0 < y.2 := by
      intro y hy
      cases hy
      rcases top1_cases acc r with ⟨e, _⟩ | ⟨y, e1, e2, _⟩
      · rw [e]; exact hl r (by simp)
      · rw [e2]; exact ha y e1
    obtain ⟨hmax, hmaxl⟩ := topS_max hl ha h
    have hrx := hmaxl r (by simp)
    have hrw := hl r (by simp)
    show topS (some (top1 acc' (f r))) (l.map f) = some x
    refine topS_map hx (fun r hr => hl r (by simp [hr])) hp (fun r hr => hf r (by simp [hr])) ?_ h'
    rcases hf r (by simp) with e | ⟨e1, e2⟩
    · rw [e]
      rcases hA with rfl | ⟨hA, hA'⟩
      · exact .inl rfl
      · rcases Nat.lt_or_ge (r.n * x.2) (x.1 * r.w) with hs | hs
        · right
          refine ⟨fun y hy => ?_, fun y hy => ?_⟩
          · cases hy; exact top1_sbl hA hs
          · cases hy; exact top1_sbl hA' hs
        · left
          rw [top1_new fun y hy => sbl_of_lt_eq hx hrw (hA y hy) hs, top1_new fun y hy => sbl_of_lt_eq hx hrw (hA' y hy) hs]
    · rcases hA with rfl | ⟨hA, hA'⟩
      · cases acc with
        | none =>
          right
          refine ⟨fun y hy => ?_, fun y hy => ?_⟩
          · cases hy; exact e1
          · cases hy; exact e2
        | some z =>
          have hz := ha z rfl
          rcases Nat.lt_or_ge (z.1 * x.2) (x.1 * z.2) with hs | hs
          · right
            have hall : ∀ y, some z = some y → sbl x y := fun y hy => by cases hy; exact hs
            refine ⟨fun y hy => ?_, fun y hy => ?_⟩
            · cases hy; exact top1_sbl hall e1
            · cases hy; exact top1_sbl hall e2
          · left
            rw [top1_old (sbl_of_lt_eq hx hz e1 hs), top1_old (sbl_of_lt_eq hx hz e2 hs)]
      · right
        refine ⟨fun y hy => ?_, fun y hy => ?_⟩
        · cases hy; exact top1_sbl hA e1
        · cases hy; exact top1_sbl hA' e2

theorem okR_w {r : Rn} (h : okR r = true) : 0 < r.w := (rt_w (okR_rt h)).1
theorem clQ_top {x : Nat × Nat} {l : List Rn} (hq : okq 0 l = true) (ht : topS none l = some x) : topS none (clQ x l) = some x := by
  have hr := topS_rt (okq_mem hq) (fun x h => by cases h) x ht
  have hx : 0 < x.2 := (rt_w hr).1
  refine topS_map hx (fun r hr => okR_w (okq_mem hq r hr)) (fun y hy => by cases hy) (fun r hr => ?_) (.inl rfl) ht
  cases h : clG x r with
  | false => exact .inl (clR_no h)
  | true =>
    have hw := okR_w (okq_mem hq r hr)
    right
    rw [clR_yes h]
    exact ⟨now_below hx hw h, far_below hx hw h⟩
theorem clQ_ok {x : Nat × Nat} {l : List Rn} (hq : okq 0 l = true) (hb : ∀ r ∈ l, clB x r = false) : okq 0 (clQ x l) = true := by
  rw [okq0] at *
  refine ⟨fun r hr => ?_, ?_⟩
  · obtain ⟨r0, h0, rfl⟩ := List.mem_map.1 hr
    cases h : clG x r0 with
    | false => rw [clR_no h]; exact hq.1 r0 h0
    | true => rw [clR_yes h]; exact okR_n (hq.1 r0 h0) (clB_no h (hb r0 h0))
  · unfold clQ
    rw [List.pairwise_map]
    exact hq.2.imp fun h => by rw [clR_id, clR_id]; exact h
theorem clI_mem {x : Nat × Nat} {l : List Rn} {i : Nat} {r : Rn} (hq : okq 0 l = true) (hr : l[i]? = some r) : decide (r.id ∈ clI x l) = clG x r := by
  have hp := (okq0.1 hq).2
  cases h : clG x r with
  | true =>
    rw [decide_eq_true_eq]
    exact List.mem_map.2 ⟨r, List.mem_filter.2 ⟨List.mem_of_getElem? hr, h⟩, rfl⟩
  | false =>
    rw [decide_eq_false_iff_not]
    intro hm
    obtain ⟨s, hs, e⟩ := List.mem_map.1 hm
    obtain ⟨hs1, hs2⟩ := List.mem_filter.1 hs
    obtain ⟨j, hj⟩ := List.getElem?_of_mem hs1
    have : s = r := by
      rcases Nat.lt_trichotomy i j with h1 | h1 | h1
      · have := pw_get hp h1 hr hj; omega
      · subst h1; rw [hr] at hj; cases hj; rfl
      · have := pw_get hp h1 hj hr; omega
    rw [this, h] at hs2
    cases hs2
theorem clI_nodup {x : Nat × Nat} {l : List Rn} (hq : okq 0 l = true) : (clI x l).Nodup := by
  have hp := (okq0.1 hq).2
  unfold clI List.Nodup
  rw [List.pairwise_map]
  exact (hp.filter _).imp fun h => by omega
theorem not_taken {l : List Int} (h : l.Nodup) {i : Nat} {n : Int} (hn : l[i]? = some n) : n ∉ l.take i := by
  intro hm
  obtain ⟨j, hj⟩ := List.getElem?_of_mem hm
  have hlt : j < (l.take i).length := (List.getElem?_eq_some_iff.1 hj).1
  rw [List.length_take] at hlt
  rw [List.getElem?_take_of_lt (by omega)] at hj
  have := (List.pairwise_iff_getElem.1 h) j i (by omega) (List.getElem?_eq_some_iff.1 hn).1 (by omega)
  rw [(List.getElem?_eq_some_iff.1 hj).2, (List.getElem?_eq_some_iff.1 hn).2] at this
  exact this rfl
theorem clI_len {x : Nat × Nat} {l : List Rn} : (clI x l).length ≤ l.length := by
  rw [clI, List.length_map]
  exact List.length_filter_le _ _
theorem clI_take {x : Nat × Nat} {l : List Rn} {i : Nat} {r : Rn} (hr : l[i]? = some r) : clI x (l.take (i + 1)) = clI x (l.take i) ++ (if clG x r = true then [r.id] else []) := by
  have : l.take (i + 1) = l.take i ++ [r] := by rw [List.take_add_one, hr]; rfl
  rw [this, clI, List.filter_append, List.map_append]
  congr 1
  cases h : clG x r <;> simp [h]
theorem clI_all (x : Nat × Nat) (l : List Rn) : clI x (l.take l.length) = clI x l := by rw [List.take_length]
end Go.Proofs.Ytdfkcijholopoaa.Vm
namespace Go.Proofs.Ytdfkcijholopoaa.Vm
open Go Go.RowKit
set_option linter.unusedSimpArgs false

/-- THE REST OF A REGION THAT KEEPS THE TEXT's ORDER: whatever frame and world stand for s, it ends in what stands for a state of K. -/
def VL (N : Nat) (ops : Array Oper) (l : List Oper) (K : St → Prop) (s : St) : Prop :=
  ∀ (M : Nat → Prop) (w0 : World) (ρ : Nat → Option (Nat × Nat)) (a : Act) (w : World) (Q : Exit → Act → World → Prop), RR M w0 N (fun m => s.n ≤ m) ρ s a w → l.all (okOp N) = true →
    (∀ ρ' s' a' w', Ext ρ ρ' → RR M w0 N (fun m => s'.n ≤ m) ρ' s' a' w' → K s' → Q .normal a' w') → wpList P ops Q l a w

theorem vl_nil {N : Nat} {ops : Array Oper} {K : St → Prop} {s : St} (h : K s) : VL N ops [] K s := fun _ _ ρ a w _ hr _ hQ => hQ ρ s a w (Ext.refl _) hr h

theorem dis_of_vgo {ops : Array Oper} {base i : Nat} {o : Oper} {l : List Oper} {s : St} {K : St → Prop} (h : vgo ops base i (o :: l) s K) : Dis ops base i o s (fun s' => vgo ops base (i + 1) l s' K) := by
  unfold vgo at h
  split at h
  · rename_i hw
    split at h
    · rename_i ef he
      refine .inl ⟨ef.rds, _, _, ?_, h⟩
      unfold cst
      rw [hw]
      simp only [he, Option.map_some]
    · obtain ⟨_, rd, Out, h2, _, h4⟩ := h
      exact .inr ⟨hw, rd, Out, h2, h4⟩
  · rename_i hw
    refine .inl ⟨[], undef, [], ?_, ?_⟩
    · unfold cst; rw [hw]
    · rw [St.app_undef]; exact h
  · exact h.elim

theorem vl_vgo {N : Nat} {ops : Array Oper} {base : Nat} {K : St → Prop} {l2 : List Oper} : ∀ (l : List Oper) (i : Nat) (s : St), vgo ops base i l s (fun s' => VL N ops l2 K s') → s.n ≤ base + i → VL N ops (l ++ l2) K s
  | [], _, _, h, _ => h
  | o :: l, i, s, h, hn => by
    intro M w0 ρ a w Q hr hok hQ
    simp only [List.cons_append, List.all_cons, Bool.and_eq_true] at hok
    rw [List.cons_append]
    unfold wpList
    refine dis_step (Q := Q) (dis_of_vgo h) hr hn hok.1 ?_
    intro ρ' v u a' w' he hu hr' hv'
    have hlt : ∀ x ∈ u, x.1 < base + (i + 1) := fun x hx => by
      rcases hu x hx with h | h
      · omega
      · simp only [Nat.not_le] at h; omega
    refine vl_vgo l (i + 1) (s.app o.dst v u) hv' (bump_le (by omega) hlt) M w0 ρ' a' w' Q (hr'.mono fun m hm => ⟨?_, ?_⟩) hok.2 fun ρ2 s2 a2 w2 he2 hr2 hk => hQ ρ2 s2 a2 w2 (he.trans he2) hr2 hk
    · have := le_bump u s.n
      have hm' : bump s.n u ≤ m := hm
      omega
    · intro hmem
      obtain ⟨x, hx, rfl⟩ := List.mem_map.1 hmem
      have hm' : bump s.n u ≤ x.1 := hm
      have := lt_bump (n := s.n) hx
      omega
/-- The next j operations, one by one. -/
theorem vl_pre {N : Nat} {ops : Array Oper} {K : St → Prop} {l : List Oper} {t : Nat → Value} {h : Nat → Option Blk} {n : Nat} (j : Nat) (hv : vgo ops n 0 (l.take j) ⟨t, h, n⟩ (fun s' => VL N ops (l.drop j) K s')) : VL N ops l K ⟨t, h, n⟩ := by
  have := vl_vgo (N := N) (K := K) (l2 := l.drop j) (l.take j) 0 ⟨t, h, n⟩ hv (Nat.le_refl _)
  rwa [List.take_append_drop] at this
/-- All that are left. -/
theorem vl_rest {N : Nat} {ops : Array Oper} {K : St → Prop} {l : List Oper} {t : Nat → Value} {h : Nat → Option Blk} {n : Nat} (hv : vgo ops n 0 l ⟨t, h, n⟩ K) : VL N ops l K ⟨t, h, n⟩ := by
  intro M w0 ρ a w Q hr hok hQ
  exact vlex_list (M := M) (w0 := w0) (N := N) l 0 [] ρ ⟨t, h, n⟩ a w (vlex_of_vgo hv) (Nat.le_refl _) hr hok hQ

theorem RR.dom {M : Nat → Prop} {w0 : World} {N : Nat} {ρ : Nat → Option (Nat × Nat)} {s : St} {a : Act} {w : World} (hr : RR M w0 N (fun m => s.n ≤ m) ρ s a w) {m : Nat} {x : Nat × Nat} (h : ρ m = some x) : m < s.n := by
  rcases Nat.lt_or_ge m s.n with h1 | h1
  · exact h1
  · rw [hr.fresh m h1] at h; cases h

/-- THE CALL, WALKED WHERE IT STANDS. -/
theorem vl_inl {N : Nat} {ops : Array Oper} {o : Oper} {rest : List Oper} {K : St → Prop} {t : Nat → Value} {h : Nat → Option Blk} {n : Nat} {fo : Operand} {args : Array Operand} {ats : Array TypeId} {g N' : Nat} {cap : Array Value} {fn : Func} {c : Code} {vs : List Value}
    (hf : P.funcs[g]? = some fn) (hb : fn.body = some c) (hN' : fn.ntmps = N') (hg : goodF g = true) (ho : o.op = .call { callee := .value fo, args := args, argTypes := ats }) (hfo : evT t fo = .func (.func g) #[] cap)
    (hvs : args.toList.map (evT t) ++ cap.toList = vs) (hlen : vs.length ≤ N') (hw : wantV ops o t = some true)
    (hv : VC (B := n) N' c (fun e s' => (e = .normal ∨ e = .ret) ∧ ∃ v, vresult s' fn.results.toList = some v ∧ VL N ops rest K ⟨putT t o.dst v, s'.h, s'.n⟩) ⟨enter vs, h, n⟩) : VL N ops (o :: rest) K ⟨t, h, n⟩ := by
  intro M w0 ρ a w Q hr hok hQ
  simp only [List.all_cons, Bool.and_eq_true] at hok
  obtain ⟨hwe, hj⟩ := wanted_eq hr hw
  have hev := hr.ev hok.1 (hj rfl)
  rw [evT_eq t h n] at hfo hvs
  unfold wpList
  rw [hwe, if_pos rfl]
  left
  have h0 := hev fo (by rw [ho]; simp [Op.operands, Call.operands])
  rw [hfo] at h0
  obtain ⟨a0, cap', h1, ha0, hcap⟩ := h0.func_inv
  have ha1 : a0 = #[] := by
    have := ha0.1
    simp at this
    exact Array.eq_empty_of_size_eq_zero this.symm
  subst ha1
  have h2 : RelL ρ vs (args.toList.map a.eval ++ cap'.toList) := by
    have hra := relA_map (ρ := ρ) (ev := St.ev ⟨t, h, n⟩) (a := a) (xs := args) (fun x hx => hev x (by rw [ho]; simp [Op.operands, Call.operands, hx]))
    have hl : RelL ρ (args.toList.map (St.ev ⟨t, h, n⟩)) (args.toList.map a.eval) := ⟨by simp, fun i v v' h1 h2 => hra.2 i v v' (by simpa using h1) (by simpa using h2)⟩
    have hc2 := hcap.toL
    rw [← hvs]
    exact hl.append hc2
  unfold Oper.wp
  have hrun : (execOp a.eval o).run P w = .ok (.enter g (args.map a.eval ++ cap')) w := by
    simp only [execOp, ho, resolve, h1, Sem.run_bind, Deferred.ofValue, Sem.run_pure, Result.andThen_ok, invoke, Array.empty_append, callFunc_run hg]
  rw [hrun]
  have harr : (args.toList.map a.eval ++ cap'.toList).toArray = args.map a.eval ++ cap' := by
    rw [← Array.toList_map, ← Array.toList_append]
  rw [← harr]
  have hc : Calls P g (args.toList.map a.eval ++ cap'.toList).toArray w (fun e w' => ∃ (v v' : Value) (ρ' : Nat → Option (Nat × Nat)) (s' : St), e = .returned v' ∧ Ext ρ ρ' ∧ Rel ρ' v v' ∧ RH M ρ' s'.h w' ∧ Kept M w w' ∧ (∀ k, s'.n ≤ k → ρ' k = none) ∧ VL N ops rest K ⟨putT t o.dst v, s'.h, s'.n⟩) := by
    refine calls_of_wp hf hb ?_
    rw [hN']
    have hrr := enter_rr (M := M) (N := N') (n := n) (h := h) (w := w) h2 hlen hr.heap (fun m hm => hr.fresh m hm)
    refine wp_mono (hv M w ρ _ w hrr) ?_
    rintro e a' w' ⟨ρ', s', hE, hr1, he, v, hvr, hL⟩
    obtain ⟨v', h5, h6⟩ := vresult_sound hr1 hvr
    have hext : Ext ρ ρ' := fun m x hm => hE m x (hr.dom hm) hm
    have final : ∃ x, (results fn a'.tmps).run P w' = .ok x w' ∧ ∃ (v v' : Value) (ρ' : Nat → Option (Nat × Nat)) (s' : St), Ending.returned x = .returned v' ∧ Ext ρ ρ' ∧ Rel ρ' v v' ∧ RH M ρ' s'.h w' ∧ Kept M w w' ∧ (∀ k, s'.n ≤ k → ρ' k = none) ∧ VL N ops rest K ⟨putT t o.dst v, s'.h, s'.n⟩ :=
      ⟨v', h5, v, v', ρ', s', rfl, hext, h6, hr1.heap, hr1.kept, hr1.fresh, hL⟩
    rcases he with rfl | rfl
    · exact ⟨hr1.defers, final⟩
    · exact ⟨hr1.defers, final⟩
  refine Calls.mono hc ?_
  rintro e w' ⟨v, v', ρ', s', rfl, hext, h6, hH, hK, hfr, hL⟩
  have hr2 : RR M w0 N (fun k => s'.n ≤ k) ρ' ⟨t, s'.h, s'.n⟩ a w' := ⟨hr.size, hr.defers, fun k hj => (hr.tmp k hj).ext hext, hH, hfr, hr.kept.trans hK⟩
  have hput : RR M w0 N (fun k => s'.n ≤ k) ρ' ⟨putT t o.dst v, s'.h, s'.n⟩ (a.put o.dst v') w' := by
    have h7 := hr2.put (u := []) (fr' := fun k => s'.n ≤ k) hok.1 (Ext.refl _) h6 (w' := w') hH (Kept.refl _ _) hfr
    rw [app_putT] at h7
    exact h7
  exact hL M w0 ρ' _ w' Q hput hok.2 fun ρ2 s2 a2 w2 he2 hr2 hk => hQ ρ2 s2 a2 w2 (hext.trans he2) hr2 hk

/-- A region whose calls may be walked where they stand. -/
theorem vc_regL {B N id : Nat} {l : List Oper} {Q : Exit → St → Prop} {t : Nat → Value} {h : Nat → Option Blk} {n : Nat} (hok : l.all (okOp N) = true)
    (hg : ∀ K : St → Prop, (∀ t h n, Q .normal ⟨t, h, n⟩ → K ⟨t, h, n⟩) → VL N l.toArray l K ⟨t, h, n⟩) : VC (B := B) N (.region id l.toArray false) Q ⟨t, h, n⟩ := by
  intro M w0 ρ a w hr
  refine wp_region_lit ?_
  refine hg (fun s' => Q .normal s') (fun _ _ _ hq => hq) M w0 ρ a w _ hr hok ?_
  intro ρ' s' a' w' he hr' hk
  exact ⟨ρ', s', he.toB, hr', hk⟩
end Go.Proofs.Ytdfkcijholopoaa.Vm
namespace Go.Proofs.Ytdfkcijholopoaa.Vm
open Go Go.RowKit
set_option linter.unusedSimpArgs false

/-- The entries of a map that holds 'true' at these numbers. -/
def mE : Nat → List Int → List MapEntry
  | _, [] => []
  | k, x :: l => ⟨.int .i64 x, .bool true, k⟩ :: mE (k + 1) l
def mS (S : List Int) : Obj := .map (mE 0 S).toArray S.length
theorem mE_append : ∀ (k : Nat) (S : List Int) (n : Int), mE k (S ++ [n]) = mE k S ++ [⟨.int .i64 n, .bool true, k + S.length⟩]
  | k, [], n => rfl
  | k, x :: S, n => by
    simp only [List.cons_append, mE, mE_append (k + 1) S n, List.length_cons]
    rw [show k + 1 + S.length = k + (S.length + 1) by omega]
theorem find_yes {n : Int} : ∀ {S : List Int} {k i : Nat}, n ∈ S → ∃ j, Instr.findNow (.int .i64) (.int .i64 n) (mE k S) i = some (some (j, .bool true))
  | [], _, _, h => by cases h
  | x :: S, k, i, h => by
    by_cases hx : n = x
    · subst hx
      exact ⟨i, by simp only [mE, Instr.findNow, Instr.sameNow, if_true, beq_self_eq_true]⟩
    · obtain ⟨j, hj⟩ := find_yes (k := k + 1) (i := i + 1) ((List.mem_cons.1 h).resolve_left hx)
      exact ⟨j, by simp only [mE, Instr.findNow, Instr.sameNow, if_true, beq_eq_false_iff_ne.2 hx]; exact hj⟩
theorem find_no {n : Int} : ∀ {S : List Int} {k i : Nat}, n ∉ S → Instr.findNow (.int .i64) (.int .i64 n) (mE k S) i = some none
  | [], _, _, _ => rfl
  | x :: S, k, i, h => by
    have hx : n ≠ x := fun e => h (by simp [e])
    simp only [mE, Instr.findNow, Instr.sameNow, if_true, beq_eq_false_iff_ne.2 hx]
    exact find_no fun hm => h (by simp [hm])
theorem run_find {w : World} {n : Int} {S : List Int} {r : Option (Nat × Value)} (h : Instr.findNow (.int .i64) (.int .i64 n) (mE 0 S) 0 = some r) : (Instr.findKey 3 (.int .i64 n) (mE 0 S)).run P w = .ok r w := by
  simp only [Instr.findKey, Sem.run_bind, run_underlying und3, Result.andThen_ok, h, Sem.run_pure]
theorem sp_mkMap {o : Oper} {m : Nat} {ev : Operand → Value} {h : Nat → Option Blk} (ho : o.op = .makeMap 65 none) :
    SpOk o m ev h [] (fun v u => v = .map (some m) ∧ u = [(m, .obj (mS []))]) := by
  intro M ρ h' w a _ hev hH hm
  have hrun : (execOp a.eval o).run P w = .ok (.value (.map (some w.heap.size))) (w.alloc (mS [])) := by
    simp only [execOp, ho, Option.map_none, Instr.makeMap, Sem.run_bind, Sem.run_pure, Result.andThen_ok]
    rfl
  unfold Oper.wp
  rw [hrun]
  exact ⟨.map (some m), .map (some w.heap.size), [(m, .obj (mS []))], _, ⟨rfl, rfl⟩, rfl, Ext.upd hm _, .map (upd_same _ _ _), hH.alloc (b := .obj (mS [])) hm ⟨rfl, rfl⟩, Kept.alloc hH.new _, fun x hx => (by simp at hx; exact .inl (by rw [hx])), fun k hk hne => by rw [upd_ne _ _ (by simpa using hne)]; exact hk⟩

theorem vex_look {ev : Operand → Value} {h : Nat → Option Blk} {x i : Operand} {k : Nat} {n : Int} {S : List Int} {b : Bool} (hx : ev x = .map (some k)) (hi : ev i = .int .i64 n) (hk : h k = some (.obj (mS S))) (hb : decide (n ∈ S) = b) :
    vex ev h (.lookup 65 x i false) = some (.rd k (.bool b)) := by
  have hl : lkm (mS S) n = some (.bool b) := by
    subst hb
    simp only [lkm, mS, lkv]
    by_cases hn : n ∈ S
    · obtain ⟨j, hj⟩ := find_yes (k := 0) (i := 0) hn
      rw [hj, decide_eq_true hn]
      rfl
    · rw [find_no (k := 0) (i := 0) hn, decide_eq_false hn]
  simp only [vex, hx, hi, hk, hl, Option.map_some]

theorem sp_mapSet {o : Oper} {m k : Nat} {ev : Operand → Value} {h : Nat → Option Blk} {x i y : Operand} {n : Int} {S : List Int} (ho : o.op = .mapUpdate 65 x i y) (hx : ev x = .map (some k)) (hi : ev i = .int .i64 n) (hy : ev y = .bool true)
    (hk : h k = some (.obj (mS S))) (hn : n ∉ S) : SpOk o m ev h [k] (fun v u => v = undef ∧ u = [(k, .obj (mS (S ++ [n])))]) := by
  intro M ρ h' w a hh hev hH hm
  obtain ⟨r, h1, h2, h3⟩ := hH.obj (show h' k = _ from (hh k (by simp)).trans hk)
  have h4 := hev x (by rw [ho]; simp [Op.operands])
  rw [hx] at h4
  obtain ⟨r', h5, h6⟩ := h4.map_inv
  rw [h1] at h5
  cases h5
  have h7 := hev i (by rw [ho]; simp [Op.operands])
  rw [hi] at h7
  have h8 := h7.int_inv
  have h9 := hev y (by rw [ho]; simp [Op.operands])
  rw [hy] at h9
  have h10 := h9.bool_inv
  have hobj : Obj.map ((mE 0 S).toArray.push ⟨.int .i64 n, .bool true, S.length⟩) (S.length + 1) = mS (S ++ [n]) := by
    simp only [mS, mE_append, List.push_toArray, Nat.zero_add, List.length_append, List.length_singleton]
  have hrun : (execOp a.eval o).run P w = .ok .skip (putO w r (mS (S ++ [n]))) := by
    simp only [execOp, ho, h6, h8, h10, Instr.mapUpdate, getObj, setObj, Sem.run_bind, Sem.run, run_underlying und65, h2, mS, Result.andThen_ok, Result.andThen, Sem.run_pure, run_key, run_find (find_no (k := 0) (i := 0) hn)]
    rw [← mS, ← hobj]
    rfl
  unfold Oper.wp
  rw [hrun]
  refine ⟨_, _, [(k, .obj (mS (S ++ [n])))], ρ, ⟨rfl, rfl⟩, rfl, Ext.refl _, .plain rfl, RH.putO hH ((hh k (by simp)).trans hk) rfl h1 ⟨?_, rfl⟩, ⟨rfl, rfl, rfl, by simp [putO], fun q hq => putO_other w r q _ fun e => hq (e ▸ h3)⟩, fun x hx => (by simp at hx; exact .inr (by rw [hx, h1]; simp)), fun k hk _ => hk⟩
  have hlt : r < w.heap.size := (Array.getElem?_eq_some_iff.1 h2).1
  simp [putO, hlt]
end Go.Proofs.Ytdfkcijholopoaa.Vm
namespace Go.Proofs.Ytdfkcijholopoaa.Vm
open Go Go.RowKit
set_option maxRecDepth 10000
set_option linter.unusedSimpArgs false
set_option linter.unusedVariables false


/-- Behind a region: the state laid anew, under new names. -/
theorem renF {B N : Nat} {y : Code} {Q : Exit → St → Prop} {t : Nat → Value} {h : Nat → Option Blk} {n : Nat} (g : Nat → Nat) (lt : List (Nat × Value)) (lh : List (Nat × Blk)) (K : Nat) (hB : B ≤ K) (hg : ∀ m, m < B → g m = m) (ht : HasTR t (fun k => (g k, 0)) lt) (hh : HasFl h (fun k => (g k, 0)) lh) (hb : bdT K lt = true) (hb' : bdH K lh = true)
    (hi : injF (fun k => (g k, 0)) (lh.map fun x => (x.1, x.2.own)) = true) (k : thenV (B := B) N y Q .normal ⟨updT (fun _ => junk) lt, updH (fun _ => none) lh, K⟩) : thenV (B := B) N y Q .normal ⟨t, h, n⟩ :=
  vc_fg (s := ⟨t, h, n⟩) (fg_ren g lt lh K hB hg ht hh hb hb' hi) k
abbrev AR46 (l : List Rn) (r : Rn) (b c : Nat) : List Value := [qv 0 l.length c, rv r, u64 b]
def Out46e (e : Int) : Value → List (Nat × Blk) → Prop := fun v u => v = .tuple #[qnil, .int .i64 e] ∧ u = []
def Out46k (l1 : List Rn) (n : Nat) : Value → List (Nat × Blk) → Prop := fun v u => ∃ c2 sp2, plainL sp2 = true ∧ v = .tuple #[qv 1 n c2, .int .i64 0] ∧ u = [(1, .cells (rws rc l1 ++ sp2) 67 true)]
def Out49k (l1 : List Rn) (n : Nat) (a : Rn) : Value → List (Nat × Blk) → Prop := fun v u => ∃ c2 sp2, n ≤ c2 ∧ plainL sp2 = true ∧ v = .tuple #[qv 1 n c2, rv a, .int .i64 0] ∧ u = [(1, .cells (rws rc l1 ++ sp2) 67 true)]
theorem fr_neq (n w : Nat) : (!((((n/2^64:Nat):Int) == ((n/2^64:Nat):Int)) && (((n%2^64:Nat):Int) == ((n%2^64:Nat):Int)) && ((w:Int) == (w:Int)))) = false := by simp
/-- Join, in three ways. -/
theorem near_cases (l : List Rn) (r : Rn) (b c : Nat) (hl : l.length ≤ 17) (hc : l.length ≤ c) :
    (∃ e, e ≠ 0 ∧ e = joinE l r b ∧ FC 46 [qv 0 l.length c, rv r, u64 b] 1 [(0, .cells (rws rc l) 0 false)] (Out46e e)) ∨
    (joinE l r b = 0 ∧ okq 0 l = true ∧ topS none l = none ∧ FC 46 [qv 0 l.length c, rv r, u64 b] 1 [(0, .cells (rws rc l) 0 false)] (Out46k (joinQ l r b) (l.length + 1))) ∨
    (∃ a v, joinE l r b = 0 ∧ okq 0 l = true ∧ topS none l = some (a, v) ∧ FC 46 [qv 0 l.length c, rv r, u64 b] 1 [(0, .cells (rws rc l) 0 false)] (Out46k (joinQ l r b) (l.length + 1))) := by
  rcases p46 l r b c (by omega) hc with ⟨h1, h2⟩ | ⟨h1, h2, _, _, _, h6⟩
  · exact .inl ⟨_, h1, rfl, h2⟩
  · cases ht : topS none l with
    | none => exact .inr (.inl ⟨h1, h2, rfl, h6⟩)
    | some x => exact .inr (.inr ⟨x.1, x.2, h1, h2, rfl, h6⟩)
theorem leave_ok {l : List Rn} {a : Rn} {k : Nat} (c : Nat) (hl : l.length ≤ 900) (hq : okq 0 l = true) (ha : l[k]? = some a) : FC 49 [qv 0 l.length c, .int .i64 a.id] 1 [(0, .cells (rws rc l) 0 false)] (Out49k (delQ l k) (l.length - 1) a) := by
  obtain ⟨e1, e2, _⟩ := at_of hq ha
  have hid := okR_id ((okq0.1 hq).1 a (List.mem_of_getElem? ha))
  have hE : leaveE l a.id = 0 := by simp [leaveE, hq, e2, inI, hid]
  rcases p49 l a.id c hl with ⟨h, _⟩ | ⟨_, _, _, _, a', ha', h⟩
  · exact absurd hE h
  · rw [e1] at ha' h
    rw [ha] at ha'
    cases ha'
    exact h
theorem same_ro (l : List Rn) (ca cb : Nat) (hl : l.length ≤ 900) : RO 45 [qv 0 l.length ca, qv 1 l.length cb] [(0, rws rc l), (1, rws rc l)] (.bool true) := by
  have h := p45 l l ca cb (by omega)
  rw [decide_eq_true rfl] at h
  exact h

theorem p9 (x : List Rn) (r : Rn) (b c : Nat) (hb64 : b < 2 ^ 64) (hc : x.length ≤ c) : RO 9 [qv 0 x.length c, rv r, u64 b] [(0, rws rc x)] (.bool true) := by
  refine ro_of _ 1 Try.func9 rfl Try.ntmps9 (by kernel_rfl) (by simp) rfl rfl (by simp) (by simp [rcs_plain]) ?_
  refine vc_seq ?_
  refine vc_go (by kernel_rfl) fun K hK => hK _ _ _ ?_
  clear hK K
  refine vc_seq ?_
  refine vc_seq ?_
  refine vc_reg (by kernel_rfl) fun K hK => ?_
  refine run_call (p38) rfl rfl rfl rfl ?_
  refine run_end (z := false) fun K' hK' => hK' _ _ _ (hK _ _ _ ?_)
  clear hK' K' hK K
  refine vc_cond (t := false) rfl (fun h => by cases h) (fun _ => ?_)
  refine vc_skip ?_
  refine vc_seq ?_
  refine vc_reg (by kernel_rfl) fun K hK => ?_
  refine run_n (z := false) 1 (fun K' hK' => hK' _ _ _ ?_) (by decide)
  clear hK' K'
  refine run_fc (fun k => (k, 0)) (p39 hc) (hasF ⟨sf_winp (rcs_plain x) rfl get_zero, trivial⟩ rfl) rfl rfl rfl rfl ⟨_, _, _, Nat.le_refl _, rfl, rfl⟩ ?_
  rintro _ _ ⟨c2, hlc, rfl, rfl⟩
  rw [renU_c (renB_p (spare_plain _ _)) renU_nil]
  have hl : (x.take 17).length ≤ 17 := take17 x
  generalize x.take 17 = l at *
  refine run_end (z := false) fun K' hK' => hK' _ _ _ (hK _ _ _ ?_)
  clear hK' K' hK K
  refine renF (fun k => if k = 0 then 2 else if k = 1 then 5 else 4) [(2, u64 b), (4, .pointer (some ⟨0, 0, none⟩)), (6, .bool false), (7, .pointer (some ⟨1, 0, none⟩))] [(0, .cells (rc r) 67 true), (1, .cells [.slice (some ⟨2, 0, none⟩) l.length c2] 55 true), (2, .cells (rws rc l) 67 false)] 3 (by decide) (fun m hm => absurd hm (Nat.not_lt_zero m)) ⟨rfl, rfl, rfl, rfl, trivial⟩ ⟨sf_ownp (rc_plain r) rfl rfl, sf_own rfl rfl, sf_winp (rcs_plain l) rfl get_zero_app, trivial⟩ rfl (bdH_c (by decide) (rc_plain r) (bdH_b (by decide) rfl (bdH_c (by decide) (rcs_plain l) rfl))) rfl ?_
  refine vc_seq ?_
  rcases near_cases l r b c2 hl hlc with ⟨e, he, hee, h46⟩ | ⟨he, hq, ht, h46⟩ | ⟨a, v, he, hq, ht, h46⟩
  · have h40 := p40 l c2 (by omega)
    refine vc_reg (by kernel_rfl) fun K hK => ?_
    refine run_n (z := false) 1 (fun K' hK' => hK' _ _ _ ?_) (by decide)
    clear hK' K'
    refine run_ro (fun _ => (2, 0)) (h40) ?_ rfl rfl rfl rfl ?_
    · intro x hx
      simp only [List.mem_singleton] at hx
      subst hx
      exact ⟨_, _, _, rfl, fun i v hv => by rw [Nat.zero_add]; exact hv⟩
    refine run_end (z := false) fun K' hK' => hK' _ _ _ (hK _ _ _ ?_)
    clear hK' K' hK K
    refine vc_seq ?_
    refine vc_reg (by kernel_rfl) fun K hK => ?_
    refine run_n (z := false) 3 (fun K' hK' => hK' _ _ _ ?_) (by decide)
    clear hK' K'
    refine run_fc (fun _ => (2, 0)) h46 (hasF ⟨sf_winp (rcs_plain l) rfl get_zero, trivial⟩ rfl) rfl rfl rfl rfl ⟨_, _, rfl, rfl⟩ ?_
    rintro _ _ ⟨rfl, rfl⟩
    refine run_end (z := false) fun K' hK' => hK' _ _ _ (hK _ _ _ ?_)
    clear hK' K' hK K
    refine vc_seq ?_
    refine vc_seq ?_
    refine vc_go (by kernel_rfl) fun K hK => hK _ _ _ ?_
    clear hK K
    refine vc_cond (t := true) (bb (bne_iff_ne.2 he)) (fun _ => ?_) (fun h => by cases h)
    refine vc_seq ?_
    refine vc_go (by kernel_rfl) fun K hK => hK _ _ _ ?_
    clear hK K
    exact vc_ret ⟨.inr rfl, rfl⟩
  · have h40 := p40 l c2 (by omega)
    rw [topQ_yes hq, ht] at h40
    obtain ⟨jok, jlen, jget, jdel, jat, jq, jb⟩ := joinQ_ok he
    obtain ⟨_, hr, _, hb, hfit⟩ := join_fits he
    have h43 := fun c => p43 (joinQ l r b) c r.id (by omega)
    have h47 := fun c => p47 (joinQ l r b) c (by omega)
    simp only [jq, chk1_yes jok, jlen] at h43 h47
    have hw1 : IntKind.i64.wrap ((l.length : Int) + 1) = ((l.length + 1 : Nat) : Int) := by rw [wrapI (by omega) (by omega)]; omega
    have hT : joinT l r b = r.n := by unfold joinT; rw [ht]
    refine vc_reg (by kernel_rfl) fun K hK => ?_
    refine run_n (z := false) 1 (fun K' hK' => hK' _ _ _ ?_) (by decide)
    clear hK' K'
    refine run_ro (fun _ => (2, 0)) (h40) ?_ rfl rfl rfl rfl ?_
    · intro x hx
      simp only [List.mem_singleton] at hx
      subst hx
      exact ⟨_, _, _, rfl, fun i v hv => by rw [Nat.zero_add]; exact hv⟩
    refine run_end (z := false) fun K' hK' => hK' _ _ _ (hK _ _ _ ?_)
    clear hK' K' hK K
    refine vc_seq ?_
    refine vc_reg (by kernel_rfl) fun K hK => ?_
    refine run_n (z := false) 3 (fun K' hK' => hK' _ _ _ ?_) (by decide)
    clear hK' K'
    refine run_fc (fun _ => (2, 0)) h46 (hasF ⟨sf_winp (rcs_plain l) rfl get_zero, trivial⟩ rfl) rfl rfl rfl rfl ⟨_, _, 0, [], rfl, rfl, rfl⟩ ?_
    rintro _ _ ⟨c3, sp3, hp3, rfl, rfl⟩
    rw [renU_c (renB_p (plainL_append (rcs_plain _) hp3)) renU_nil]
    refine run_end (z := false) fun K' hK' => hK' _ _ _ (hK _ _ _ ?_)
    clear hK' K' hK K
    refine refocusF [(2, u64 b), (4, .pointer (some ⟨0, 0, none⟩)), (6, .bool false), (7, .pointer (some ⟨1, 0, none⟩)), (8, .pointer (some ⟨8, 0, none⟩)), (9, .bool false), (10, .pointer (some ⟨16, 0, none⟩)), (11, .int .i64 0)] [(0, .cells (rc r) 67 true), (1, .cells [.slice (some ⟨2, 0, none⟩) l.length c2] 55 true), (2, .cells (rws rc l) 67 false), (8, .cells (frc 0 0) 58 true), (12, .cells (rws rc (joinQ l r b) ++ sp3) 67 true), (16, .cells [.slice (some ⟨12, 0, none⟩) (l.length + 1) c3] 55 true)] 17 (by decide) ⟨rfl, rfl, rfl, rfl, rfl, rfl, rfl, rfl, trivial⟩ ⟨sb rfl, sb rfl, sb rfl, sb rfl, sb rfl, sb rfl, trivial⟩ rfl (bdH_c (by decide) (rc_plain r) (bdH_b (by decide) rfl (bdH_c (by decide) (rcs_plain l) (bdH_c (by decide) (by rfl) (bdH_c (by decide) (plainL_append (rcs_plain _) hp3) (bdH_b (by decide) rfl rfl)))))) ?_
    refine vc_seq ?_
    refine vc_seq ?_
    refine vc_go (by kernel_rfl) fun K hK => hK _ _ _ ?_
    clear hK K
    refine vc_cond (t := false) rfl (fun h => by cases h) (fun _ => ?_)
    refine vc_skip ?_
    refine vc_seq ?_
    refine vc_reg (by kernel_rfl) fun K hK => ?_
    refine run_n (z := false) 3 (fun K' hK' => hK' _ _ _ ?_) (by decide)
    clear hK' K'
    refine run_ro (fun _ => (12, 0)) ((h43 c3)) ?_ rfl rfl rfl rfl ?_
    · intro x hx
      simp only [List.mem_singleton] at hx
      subst hx
      exact ⟨_, _, _, rfl, get_zero_app⟩
    refine run_end (z := false) fun K' hK' => hK' _ _ _ (hK _ _ _ ?_)
    clear hK' K' hK K
    refine vc_seq ?_
    refine vc_seq ?_
    refine vc_reg (by kernel_rfl) fun K hK => ?_
    refine run_n (z := false) 3 (fun K' hK' => hK' _ _ _ ?_) (by decide)
    clear hK' K'
    refine vgo_known 47 (b := false) (rfl) ?_
    refine run_n (z := false) 1 (fun K' hK' => hK' _ _ _ ?_) (by decide)
    clear hK' K'
    refine run_ro (fun _ => (12, 0)) ((h47 c3)) ?_ rfl rfl rfl rfl ?_
    · intro x hx
      simp only [List.mem_singleton] at hx
      subst hx
      exact ⟨_, _, _, rfl, get_zero_app⟩
    refine run_n (z := false) 3 (fun K' hK' => hK' _ _ _ ?_) (by decide)
    clear hK' K'
    refine vgo_known 52 (b := false) (rfl) ?_
    refine run_n (z := false) 10 (fun K' hK' => hK' _ _ _ ?_) (by decide)
    clear hK' K'
    refine vgo_known 62 (b := false) (bb (by rw [hw1]; simp)) ?_
    refine run_n (z := false) 7 (fun K' hK' => hK' _ _ _ ?_) (by decide)
    clear hK' K'
    refine vgo_known 69 (b := false) (bb (by simp)) ?_
    refine run_end (z := false) fun K' hK' => hK' _ _ _ (hK _ _ _ ?_)
    clear hK' K' hK K
    refine vc_cond (t := false) (bb (by simp)) (fun h => by cases h) (fun _ => ?_)
    refine vc_skip ?_
    refine vc_seq ?_
    refine vc_seq ?_
    refine vc_go (by kernel_rfl) fun K hK => hK _ _ _ ?_
    clear hK K
    refine vc_cond (t := true) rfl (fun _ => ?_) (fun h => by cases h)
    refine vc_seq ?_
    refine vc_go (by kernel_rfl) fun K hK => hK _ _ _ ?_
    clear hK K
    refine vc_ret ⟨.inr rfl, ?_⟩
    exact fin_bb ((rn_beq _ _).trans (decide_eq_true (by rw [hT]; rfl)))
  · have h40 := p40 l c2 (by omega)
    rw [topQ_yes hq, ht] at h40
    obtain ⟨jok, jlen, jget, jdel, jat, jq, jb⟩ := joinQ_ok he
    obtain ⟨_, hr, _, hb, hfit⟩ := join_fits he
    have h43 := fun c => p43 (joinQ l r b) c r.id (by omega)
    have h47 := fun c => p47 (joinQ l r b) c (by omega)
    simp only [jq, chk1_yes jok, jlen] at h43 h47
    have hw1 : IntKind.i64.wrap ((l.length : Int) + 1) = ((l.length + 1 : Nat) : Int) := by rw [wrapI (by omega) (by omega)]; omega
    have hra : rt a v = true := topS_rt (okq_mem hq) (fun x h => by cases h) _ ht
    have hv : 0 < v := (rt_w hra).1
    have hrr : rt r.n r.w = true := okR_rt hr
    have hA := hfit a v ht
    have hT : joinT l r b = joinN a v r.w (b * r.each.toNat) r.n := by unfold joinT; rw [ht]
    have hrT : rt (joinT l r b) r.w = true := rt_mk (rt_wt hrr) (joinT_lt he)
    obtain ⟨n1, n2⟩ := join_near (a := a) (v := v) (w := r.w) (k := b * r.each.toNat) (n := r.n) hv
    rw [← hT] at n1 n2
    have h48 : Pure 48 [fr (joinT l r b) r.w, fr a v] (.bool true) := by
      rcases Nat.eq_zero_or_pos (joinT l r b) with h | h
      · exact p48a hrT hra n1 h
      · refine p48b hrT hra n1 (by omega) ?_
        rcases n2 with n2 | n2
        · omega
        · unfold cmpW
          rw [if_pos n2]
          decide
    have h42 := p42y hrT hra
    have k42 := p42y hrr hra
    have h49 := fun c => leave_ok c (by omega) jok jget
    simp only [jdel, jlen, Nat.add_sub_cancel] at h49
    refine vc_reg (by kernel_rfl) fun K hK => ?_
    refine run_n (z := false) 1 (fun K' hK' => hK' _ _ _ ?_) (by decide)
    clear hK' K'
    refine run_ro (fun _ => (2, 0)) (h40) ?_ rfl rfl rfl rfl ?_
    · intro x hx
      simp only [List.mem_singleton] at hx
      subst hx
      exact ⟨_, _, _, rfl, fun i v hv => by rw [Nat.zero_add]; exact hv⟩
    refine run_end (z := false) fun K' hK' => hK' _ _ _ (hK _ _ _ ?_)
    clear hK' K' hK K
    refine vc_seq ?_
    refine vc_reg (by kernel_rfl) fun K hK => ?_
    refine run_n (z := false) 3 (fun K' hK' => hK' _ _ _ ?_) (by decide)
    clear hK' K'
    refine run_fc (fun _ => (2, 0)) h46 (hasF ⟨sf_winp (rcs_plain l) rfl get_zero, trivial⟩ rfl) rfl rfl rfl rfl ⟨_, _, 0, [], rfl, rfl, rfl⟩ ?_
    rintro _ _ ⟨c3, sp3, hp3, rfl, rfl⟩
    rw [renU_c (renB_p (plainL_append (rcs_plain _) hp3)) renU_nil]
    refine run_end (z := false) fun K' hK' => hK' _ _ _ (hK _ _ _ ?_)
    clear hK' K' hK K
    refine refocusF [(2, u64 b), (4, .pointer (some ⟨0, 0, none⟩)), (6, .bool false), (7, .pointer (some ⟨1, 0, none⟩)), (8, .pointer (some ⟨8, 0, none⟩)), (9, .bool true), (10, .pointer (some ⟨16, 0, none⟩)), (11, .int .i64 0)] [(0, .cells (rc r) 67 true), (1, .cells [.slice (some ⟨2, 0, none⟩) l.length c2] 55 true), (2, .cells (rws rc l) 67 false), (8, .cells (frc a v) 58 true), (12, .cells (rws rc (joinQ l r b) ++ sp3) 67 true), (16, .cells [.slice (some ⟨12, 0, none⟩) (l.length + 1) c3] 55 true)] 17 (by decide) ⟨rfl, rfl, rfl, rfl, rfl, rfl, rfl, rfl, trivial⟩ ⟨sb rfl, sb rfl, sb rfl, sb rfl, sb rfl, sb rfl, trivial⟩ rfl (bdH_c (by decide) (rc_plain r) (bdH_b (by decide) rfl (bdH_c (by decide) (rcs_plain l) (bdH_c (by decide) (by rfl) (bdH_c (by decide) (plainL_append (rcs_plain _) hp3) (bdH_b (by decide) rfl rfl)))))) ?_
    refine vc_seq ?_
    refine vc_seq ?_
    refine vc_go (by kernel_rfl) fun K hK => hK _ _ _ ?_
    clear hK K
    refine vc_cond (t := false) rfl (fun h => by cases h) (fun _ => ?_)
    refine vc_skip ?_
    refine vc_seq ?_
    refine vc_reg (by kernel_rfl) fun K hK => ?_
    refine run_n (z := false) 3 (fun K' hK' => hK' _ _ _ ?_) (by decide)
    clear hK' K'
    refine run_ro (fun _ => (12, 0)) ((h43 c3)) ?_ rfl rfl rfl rfl ?_
    · intro x hx
      simp only [List.mem_singleton] at hx
      subst hx
      exact ⟨_, _, _, rfl, get_zero_app⟩
    refine run_end (z := false) fun K' hK' => hK' _ _ _ (hK _ _ _ ?_)
    clear hK' K' hK K
    refine vc_seq ?_
    refine vc_seq ?_
    refine vc_reg (by kernel_rfl) fun K hK => ?_
    refine run_n (z := false) 3 (fun K' hK' => hK' _ _ _ ?_) (by decide)
    clear hK' K'
    refine vgo_known 47 (b := false) (rfl) ?_
    refine run_n (z := false) 1 (fun K' hK' => hK' _ _ _ ?_) (by decide)
    clear hK' K'
    refine run_ro (fun _ => (12, 0)) ((h47 c3)) ?_ rfl rfl rfl rfl ?_
    · intro x hx
      simp only [List.mem_singleton] at hx
      subst hx
      exact ⟨_, _, _, rfl, get_zero_app⟩
    refine run_n (z := false) 3 (fun K' hK' => hK' _ _ _ ?_) (by decide)
    clear hK' K'
    refine vgo_known 52 (b := false) (rfl) ?_
    refine run_n (z := false) 10 (fun K' hK' => hK' _ _ _ ?_) (by decide)
    clear hK' K'
    refine vgo_known 62 (b := false) (bb (by rw [hw1]; simp)) ?_
    refine run_n (z := false) 7 (fun K' hK' => hK' _ _ _ ?_) (by decide)
    clear hK' K'
    refine vgo_known 69 (b := false) (bb (by simp)) ?_
    refine run_end (z := false) fun K' hK' => hK' _ _ _ (hK _ _ _ ?_)
    clear hK' K' hK K
    refine vc_cond (t := false) (bb (by simp)) (fun h => by cases h) (fun _ => ?_)
    refine vc_skip ?_
    refine vc_seq ?_
    refine vc_seq ?_
    refine vc_go (by kernel_rfl) fun K hK => hK _ _ _ ?_
    clear hK K
    refine vc_cond (t := false) rfl (fun h => by cases h) (fun _ => ?_)
    refine vc_skip ?_
    refine vc_seq ?_
    refine vc_seq ?_
    by_cases hb0 : b = 0
    · have hz : cmpW (joinT l r b * v) (a * r.w) < 0 → False := by
        intro h
        rw [hT, hb0, Nat.zero_mul, join_zero] at h
        have := sc_ge' (a := a) (m := r.w) (d := v) hv
        unfold cmpW at h
        split at h
        · omega
        · split at h <;> simp at h
      refine vc_reg (by kernel_rfl) fun K hK => ?_
      refine run_n (z := false) 3 (fun K' hK' => hK' _ _ _ ?_) (by decide)
      clear hK' K'
      refine run_call (h48) rfl rfl rfl rfl ?_
      refine run_n (z := false) 2 (fun K' hK' => hK' _ _ _ ?_) (by decide)
      clear hK' K'
      refine vgo_known 88 (b := false) (rfl) ?_
      refine run_n (z := false) 3 (fun K' hK' => hK' _ _ _ ?_) (by decide)
      clear hK' K'
      refine vgo_known 91 (b := true) (bb (by simp [hb0])) ?_
      refine run_n (z := false) 3 (fun K' hK' => hK' _ _ _ ?_) (by decide)
      clear hK' K'
      refine run_call (h42) rfl rfl rfl rfl ?_
      refine run_end (z := false) fun K' hK' => hK' _ _ _ (hK _ _ _ ?_)
      clear hK' K' hK K
      refine vc_cond (t := false) (bb (decide_eq_false hz)) (fun h => by cases h) (fun _ => ?_)
      refine vc_skip ?_
      refine vc_seq ?_
      refine vc_seq ?_
      by_cases heq : cmpW (r.n * v) (a * r.w) = 0
      · have hTn : joinT l r b = r.n := by
          rw [hT]
          refine join_top hv ?_
          rw [cmpW_eq] at heq
          exact heq
        refine vc_reg (by kernel_rfl) fun K hK => ?_
        refine run_n (z := false) 3 (fun K' hK' => hK' _ _ _ ?_) (by decide)
        clear hK' K'
        refine run_call (k42) rfl rfl rfl rfl ?_
        refine run_n (z := false) 2 (fun K' hK' => hK' _ _ _ ?_) (by decide)
        clear hK' K'
        refine vgo_known 104 (b := true) (bb (by rw [heq]; rfl)) ?_
        refine run_end (z := false) fun K' hK' => hK' _ _ _ (hK _ _ _ ?_)
        clear hK' K' hK K
        refine vc_cond (t := false) (bb (by rw [hTn]; exact fr_neq r.n r.w)) (fun h => by cases h) (fun _ => ?_)
        refine vc_skip ?_
        refine vc_seq ?_
        refine vc_reg (by kernel_rfl) fun K hK => ?_
        refine run_n (z := false) 3 (fun K' hK' => hK' _ _ _ ?_) (by decide)
        clear hK' K'
        refine run_fc (fun _ => (12, 0)) (h49 c3) (hasF ⟨sf_winp (rcs_plain _) rfl get_zero_app, trivial⟩ rfl) rfl rfl rfl rfl ⟨_, _, _, [], Nat.le_refl _, rfl, rfl, rfl⟩ ?_
        rintro _ _ ⟨c4, sp4, _, hp4, rfl, rfl⟩
        rw [renU_c (renB_p (plainL_append (rcs_plain _) hp4)) renU_nil]
        refine run_end (z := false) fun K' hK' => hK' _ _ _ (hK _ _ _ ?_)
        clear hK' K' hK K
        refine vc_seq ?_
        refine vc_reg (by kernel_rfl) fun K hK => ?_
        refine run_n (z := false) 3 (fun K' hK' => hK' _ _ _ ?_) (by decide)
        clear hK' K'
        refine vgo_known 121 (b := true) (rfl) ?_
        refine run_n (z := false) 5 (fun K' hK' => hK' _ _ _ ?_) (by decide)
        clear hK' K'
        refine vgo_known 126 (b := true) (bb ((rn_beq _ _).trans (decide_eq_true rfl))) ?_
        refine run_n (z := false) 2 (fun K' hK' => hK' _ _ _ ?_) (by decide)
        clear hK' K'
        refine run_ro (fun k => if k = 0 then (28, 0) else (2, 0)) (same_ro l c4 c2 (by omega)) ?_ rfl rfl rfl rfl ?_
        · intro x hx
          simp only [List.mem_cons, List.mem_singleton, List.not_mem_nil, or_false] at hx
          rcases hx with rfl | rfl
          · exact ⟨_, _, _, rfl, get_zero_app⟩
          · exact ⟨_, _, _, rfl, fun i v hv => (congrArg (fun k => (rws rc l)[k]?) (Nat.zero_add i)).trans hv⟩
        refine run_end (z := false) fun K' hK' => hK' _ _ _ (hK _ _ _ ?_)
        clear hK' K' hK K
        exact vc_ret ⟨.inr rfl, rfl⟩
      · skip
        refine vc_reg (by kernel_rfl) fun K hK => ?_
        refine run_n (z := false) 3 (fun K' hK' => hK' _ _ _ ?_) (by decide)
        clear hK' K'
        refine run_call (k42) rfl rfl rfl rfl ?_
        refine run_n (z := false) 2 (fun K' hK' => hK' _ _ _ ?_) (by decide)
        clear hK' K'
        refine vgo_known 104 (b := false) (bb (beq_eq_false_iff_ne.2 heq)) ?_
        refine run_end (z := false) fun K' hK' => hK' _ _ _ (hK _ _ _ ?_)
        clear hK' K' hK K
        refine vc_cond (t := false) rfl (fun h => by cases h) (fun _ => ?_)
        refine vc_skip ?_
        refine vc_seq ?_
        refine vc_reg (by kernel_rfl) fun K hK => ?_
        refine run_n (z := false) 3 (fun K' hK' => hK' _ _ _ ?_) (by decide)
        clear hK' K'
        refine run_fc (fun _ => (12, 0)) (h49 c3) (hasF ⟨sf_winp (rcs_plain _) rfl get_zero_app, trivial⟩ rfl) rfl rfl rfl rfl ⟨_, _, _, [], Nat.le_refl _, rfl, rfl, rfl⟩ ?_
        rintro _ _ ⟨c4, sp4, _, hp4, rfl, rfl⟩
        rw [renU_c (renB_p (plainL_append (rcs_plain _) hp4)) renU_nil]
        refine run_end (z := false) fun K' hK' => hK' _ _ _ (hK _ _ _ ?_)
        clear hK' K' hK K
        refine vc_seq ?_
        refine vc_reg (by kernel_rfl) fun K hK => ?_
        refine run_n (z := false) 3 (fun K' hK' => hK' _ _ _ ?_) (by decide)
        clear hK' K'
        refine vgo_known 121 (b := true) (rfl) ?_
        refine run_n (z := false) 5 (fun K' hK' => hK' _ _ _ ?_) (by decide)
        clear hK' K'
        refine vgo_known 126 (b := true) (bb ((rn_beq _ _).trans (decide_eq_true rfl))) ?_
        refine run_n (z := false) 2 (fun K' hK' => hK' _ _ _ ?_) (by decide)
        clear hK' K'
        refine run_ro (fun k => if k = 0 then (28, 0) else (2, 0)) (same_ro l c4 c2 (by omega)) ?_ rfl rfl rfl rfl ?_
        · intro x hx
          simp only [List.mem_cons, List.mem_singleton, List.not_mem_nil, or_false] at hx
          rcases hx with rfl | rfl
          · exact ⟨_, _, _, rfl, get_zero_app⟩
          · exact ⟨_, _, _, rfl, fun i v hv => (congrArg (fun k => (rws rc l)[k]?) (Nat.zero_add i)).trans hv⟩
        refine run_end (z := false) fun K' hK' => hK' _ _ _ (hK _ _ _ ?_)
        clear hK' K' hK K
        exact vc_ret ⟨.inr rfl, rfl⟩
    · skip
      refine vc_reg (by kernel_rfl) fun K hK => ?_
      refine run_n (z := false) 3 (fun K' hK' => hK' _ _ _ ?_) (by decide)
      clear hK' K'
      refine run_call (h48) rfl rfl rfl rfl ?_
      refine run_n (z := false) 2 (fun K' hK' => hK' _ _ _ ?_) (by decide)
      clear hK' K'
      refine vgo_known 88 (b := false) (rfl) ?_
      refine run_n (z := false) 3 (fun K' hK' => hK' _ _ _ ?_) (by decide)
      clear hK' K'
      refine vgo_known 91 (b := false) (bb (by simp; omega)) ?_
      refine run_end (z := false) fun K' hK' => hK' _ _ _ (hK _ _ _ ?_)
      clear hK' K' hK K
      refine vc_cond (t := false) rfl (fun h => by cases h) (fun _ => ?_)
      refine vc_skip ?_
      refine vc_seq ?_
      refine vc_seq ?_
      by_cases heq : cmpW (r.n * v) (a * r.w) = 0
      · have hTn : joinT l r b = r.n := by
          rw [hT]
          refine join_top hv ?_
          rw [cmpW_eq] at heq
          exact heq
        refine vc_reg (by kernel_rfl) fun K hK => ?_
        refine run_n (z := false) 3 (fun K' hK' => hK' _ _ _ ?_) (by decide)
        clear hK' K'
        refine run_call (k42) rfl rfl rfl rfl ?_
        refine run_n (z := false) 2 (fun K' hK' => hK' _ _ _ ?_) (by decide)
        clear hK' K'
        refine vgo_known 104 (b := true) (bb (by rw [heq]; rfl)) ?_
        refine run_end (z := false) fun K' hK' => hK' _ _ _ (hK _ _ _ ?_)
        clear hK' K' hK K
        refine vc_cond (t := false) (bb (by rw [hTn]; exact fr_neq r.n r.w)) (fun h => by cases h) (fun _ => ?_)
        refine vc_skip ?_
        refine vc_seq ?_
        refine vc_reg (by kernel_rfl) fun K hK => ?_
        refine run_n (z := false) 3 (fun K' hK' => hK' _ _ _ ?_) (by decide)
        clear hK' K'
        refine run_fc (fun _ => (12, 0)) (h49 c3) (hasF ⟨sf_winp (rcs_plain _) rfl get_zero_app, trivial⟩ rfl) rfl rfl rfl rfl ⟨_, _, _, [], Nat.le_refl _, rfl, rfl, rfl⟩ ?_
        rintro _ _ ⟨c4, sp4, _, hp4, rfl, rfl⟩
        rw [renU_c (renB_p (plainL_append (rcs_plain _) hp4)) renU_nil]
        refine run_end (z := false) fun K' hK' => hK' _ _ _ (hK _ _ _ ?_)
        clear hK' K' hK K
        refine vc_seq ?_
        refine vc_reg (by kernel_rfl) fun K hK => ?_
        refine run_n (z := false) 3 (fun K' hK' => hK' _ _ _ ?_) (by decide)
        clear hK' K'
        refine vgo_known 121 (b := true) (rfl) ?_
        refine run_n (z := false) 5 (fun K' hK' => hK' _ _ _ ?_) (by decide)
        clear hK' K'
        refine vgo_known 126 (b := true) (bb ((rn_beq _ _).trans (decide_eq_true rfl))) ?_
        refine run_n (z := false) 2 (fun K' hK' => hK' _ _ _ ?_) (by decide)
        clear hK' K'
        refine run_ro (fun k => if k = 0 then (28, 0) else (2, 0)) (same_ro l c4 c2 (by omega)) ?_ rfl rfl rfl rfl ?_
        · intro x hx
          simp only [List.mem_cons, List.mem_singleton, List.not_mem_nil, or_false] at hx
          rcases hx with rfl | rfl
          · exact ⟨_, _, _, rfl, get_zero_app⟩
          · exact ⟨_, _, _, rfl, fun i v hv => (congrArg (fun k => (rws rc l)[k]?) (Nat.zero_add i)).trans hv⟩
        refine run_end (z := false) fun K' hK' => hK' _ _ _ (hK _ _ _ ?_)
        clear hK' K' hK K
        exact vc_ret ⟨.inr rfl, rfl⟩
      · skip
        refine vc_reg (by kernel_rfl) fun K hK => ?_
        refine run_n (z := false) 3 (fun K' hK' => hK' _ _ _ ?_) (by decide)
        clear hK' K'
        refine run_call (k42) rfl rfl rfl rfl ?_
        refine run_n (z := false) 2 (fun K' hK' => hK' _ _ _ ?_) (by decide)
        clear hK' K'
        refine vgo_known 104 (b := false) (bb (beq_eq_false_iff_ne.2 heq)) ?_
        refine run_end (z := false) fun K' hK' => hK' _ _ _ (hK _ _ _ ?_)
        clear hK' K' hK K
        refine vc_cond (t := false) rfl (fun h => by cases h) (fun _ => ?_)
        refine vc_skip ?_
        refine vc_seq ?_
        refine vc_reg (by kernel_rfl) fun K hK => ?_
        refine run_n (z := false) 3 (fun K' hK' => hK' _ _ _ ?_) (by decide)
        clear hK' K'
        refine run_fc (fun _ => (12, 0)) (h49 c3) (hasF ⟨sf_winp (rcs_plain _) rfl get_zero_app, trivial⟩ rfl) rfl rfl rfl rfl ⟨_, _, _, [], Nat.le_refl _, rfl, rfl, rfl⟩ ?_
        rintro _ _ ⟨c4, sp4, _, hp4, rfl, rfl⟩
        rw [renU_c (renB_p (plainL_append (rcs_plain _) hp4)) renU_nil]
        refine run_end (z := false) fun K' hK' => hK' _ _ _ (hK _ _ _ ?_)
        clear hK' K' hK K
        refine vc_seq ?_
        refine vc_reg (by kernel_rfl) fun K hK => ?_
        refine run_n (z := false) 3 (fun K' hK' => hK' _ _ _ ?_) (by decide)
        clear hK' K'
        refine vgo_known 121 (b := true) (rfl) ?_
        refine run_n (z := false) 5 (fun K' hK' => hK' _ _ _ ?_) (by decide)
        clear hK' K'
        refine vgo_known 126 (b := true) (bb ((rn_beq _ _).trans (decide_eq_true rfl))) ?_
        refine run_n (z := false) 2 (fun K' hK' => hK' _ _ _ ?_) (by decide)
        clear hK' K'
        refine run_ro (fun k => if k = 0 then (28, 0) else (2, 0)) (same_ro l c4 c2 (by omega)) ?_ rfl rfl rfl rfl ?_
        · intro x hx
          simp only [List.mem_cons, List.mem_singleton, List.not_mem_nil, or_false] at hx
          rcases hx with rfl | rfl
          · exact ⟨_, _, _, rfl, get_zero_app⟩
          · exact ⟨_, _, _, rfl, fun i v hv => (congrArg (fun k => (rws rc l)[k]?) (Nat.zero_add i)).trans hv⟩
        refine run_end (z := false) fun K' hK' => hK' _ _ _ (hK _ _ _ ?_)
        clear hK' K' hK K
        exact vc_ret ⟨.inr rfl, rfl⟩
theorem p9nil (r : Rn) (b : Nat) (hb64 : b < 2 ^ 64) : Pure 9 [qnil, rv r, u64 b] (.bool true) := by
  refine pure_of Try.func9 rfl Try.ntmps9 (by kernel_rfl) rfl (by simp) rfl ?_
  refine vc_seq ?_
  refine vc_go (by kernel_rfl) fun K hK => hK _ _ _ ?_
  clear hK K
  refine vc_seq ?_
  refine vc_seq ?_
  refine vc_reg (by kernel_rfl) fun K hK => ?_
  refine run_call (p38) rfl rfl rfl rfl ?_
  refine run_end (z := false) fun K' hK' => hK' _ _ _ (hK _ _ _ ?_)
  clear hK' K' hK K
  refine vc_cond (t := false) rfl (fun h => by cases h) (fun _ => ?_)
  refine vc_skip ?_
  refine vc_seq ?_
  refine vc_reg (by kernel_rfl) fun K hK => ?_
  refine run_n (z := false) 1 (fun K' hK' => hK' _ _ _ ?_) (by decide)
  clear hK' K'
  refine run_fc (fun k => (k, 0)) p39nil (hasF trivial rfl) rfl rfl rfl rfl ⟨_, _, rfl, rfl⟩ ?_
  rintro _ _ ⟨rfl, rfl⟩
  refine run_end (z := false) fun K' hK' => hK' _ _ _ (hK _ _ _ ?_)
  clear hK' K' hK K
  obtain ⟨c2, hc2⟩ : ∃ c2, c2 = 0 := ⟨_, rfl⟩
  obtain ⟨l, hll⟩ : ∃ l : List Rn, l = [] := ⟨_, rfl⟩
  have hlc : l.length ≤ c2 := by rw [hll]; exact Nat.zero_le _
  have hl : l.length ≤ 17 := by rw [hll]; decide
  refine renF (fun k => if k = 0 then 1 else if k = 1 then 4 else 3) [(2, u64 b), (4, .pointer (some ⟨0, 0, none⟩)), (6, .bool false), (7, .pointer (some ⟨1, 0, none⟩))] [(0, .cells (rc r) 67 true), (1, .cells [.slice (some ⟨2, 0, none⟩) l.length c2] 55 true), (2, .cells (rws rc l) 67 false)] 3 (by decide) (fun m hm => absurd hm (Nat.not_lt_zero m)) ⟨rfl, rfl, rfl, rfl, trivial⟩ (by subst hll; subst hc2; exact ⟨sf_ownp (rc_plain r) rfl rfl, sf_own rfl rfl, sf_winp (rcs_plain _) rfl get_zero, trivial⟩) rfl (bdH_c (by decide) (rc_plain r) (bdH_b (by decide) rfl (bdH_c (by decide) (rcs_plain l) rfl))) rfl ?_
  refine vc_seq ?_
  rcases near_cases l r b c2 hl hlc with ⟨e, he, hee, h46⟩ | ⟨he, hq, ht, h46⟩ | ⟨a, v, he, hq, ht, h46⟩
  · have h40 := p40 l c2 (by omega)
    refine vc_reg (by kernel_rfl) fun K hK => ?_
    refine run_n (z := false) 1 (fun K' hK' => hK' _ _ _ ?_) (by decide)
    clear hK' K'
    refine run_ro (fun _ => (2, 0)) (h40) ?_ rfl rfl rfl rfl ?_
    · intro x hx
      simp only [List.mem_singleton] at hx
      subst hx
      exact ⟨_, _, _, rfl, fun i v hv => by rw [Nat.zero_add]; exact hv⟩
    refine run_end (z := false) fun K' hK' => hK' _ _ _ (hK _ _ _ ?_)
    clear hK' K' hK K
    refine vc_seq ?_
    refine vc_reg (by kernel_rfl) fun K hK => ?_
    refine run_n (z := false) 3 (fun K' hK' => hK' _ _ _ ?_) (by decide)
    clear hK' K'
    refine run_fc (fun _ => (2, 0)) h46 (hasF ⟨sf_winp (rcs_plain l) rfl get_zero, trivial⟩ rfl) rfl rfl rfl rfl ⟨_, _, rfl, rfl⟩ ?_
    rintro _ _ ⟨rfl, rfl⟩
    refine run_end (z := false) fun K' hK' => hK' _ _ _ (hK _ _ _ ?_)
    clear hK' K' hK K
    refine vc_seq ?_
    refine vc_seq ?_
    refine vc_go (by kernel_rfl) fun K hK => hK _ _ _ ?_
    clear hK K
    refine vc_cond (t := true) (bb (bne_iff_ne.2 he)) (fun _ => ?_) (fun h => by cases h)
    refine vc_seq ?_
    refine vc_go (by kernel_rfl) fun K hK => hK _ _ _ ?_
    clear hK K
    exact vc_ret ⟨.inr rfl, rfl⟩
  · have h40 := p40 l c2 (by omega)
    rw [topQ_yes hq, ht] at h40
    obtain ⟨jok, jlen, jget, jdel, jat, jq, jb⟩ := joinQ_ok he
    obtain ⟨_, hr, _, hb, hfit⟩ := join_fits he
    have h43 := fun c => p43 (joinQ l r b) c r.id (by omega)
    have h47 := fun c => p47 (joinQ l r b) c (by omega)
    simp only [jq, chk1_yes jok, jlen] at h43 h47
    have hw1 : IntKind.i64.wrap ((l.length : Int) + 1) = ((l.length + 1 : Nat) : Int) := by rw [wrapI (by omega) (by omega)]; omega
    have hT : joinT l r b = r.n := by unfold joinT; rw [ht]
    refine vc_reg (by kernel_rfl) fun K hK => ?_
    refine run_n (z := false) 1 (fun K' hK' => hK' _ _ _ ?_) (by decide)
    clear hK' K'
    refine run_ro (fun _ => (2, 0)) (h40) ?_ rfl rfl rfl rfl ?_
    · intro x hx
      simp only [List.mem_singleton] at hx
      subst hx
      exact ⟨_, _, _, rfl, fun i v hv => by rw [Nat.zero_add]; exact hv⟩
    refine run_end (z := false) fun K' hK' => hK' _ _ _ (hK _ _ _ ?_)
    clear hK' K' hK K
    refine vc_seq ?_
    refine vc_reg (by kernel_rfl) fun K hK => ?_
    refine run_n (z := false) 3 (fun K' hK' => hK' _ _ _ ?_) (by decide)
    clear hK' K'
    refine run_fc (fun _ => (2, 0)) h46 (hasF ⟨sf_winp (rcs_plain l) rfl get_zero, trivial⟩ rfl) rfl rfl rfl rfl ⟨_, _, 0, [], rfl, rfl, rfl⟩ ?_
    rintro _ _ ⟨c3, sp3, hp3, rfl, rfl⟩
    rw [renU_c (renB_p (plainL_append (rcs_plain _) hp3)) renU_nil]
    refine run_end (z := false) fun K' hK' => hK' _ _ _ (hK _ _ _ ?_)
    clear hK' K' hK K
    refine refocusF [(2, u64 b), (4, .pointer (some ⟨0, 0, none⟩)), (6, .bool false), (7, .pointer (some ⟨1, 0, none⟩)), (8, .pointer (some ⟨8, 0, none⟩)), (9, .bool false), (10, .pointer (some ⟨16, 0, none⟩)), (11, .int .i64 0)] [(0, .cells (rc r) 67 true), (1, .cells [.slice (some ⟨2, 0, none⟩) l.length c2] 55 true), (2, .cells (rws rc l) 67 false), (8, .cells (frc 0 0) 58 true), (12, .cells (rws rc (joinQ l r b) ++ sp3) 67 true), (16, .cells [.slice (some ⟨12, 0, none⟩) (l.length + 1) c3] 55 true)] 17 (by decide) ⟨rfl, rfl, rfl, rfl, rfl, rfl, rfl, rfl, trivial⟩ ⟨sb rfl, sb rfl, sb rfl, sb rfl, sb rfl, sb rfl, trivial⟩ rfl (bdH_c (by decide) (rc_plain r) (bdH_b (by decide) rfl (bdH_c (by decide) (rcs_plain l) (bdH_c (by decide) (by rfl) (bdH_c (by decide) (plainL_append (rcs_plain _) hp3) (bdH_b (by decide) rfl rfl)))))) ?_
    refine vc_seq ?_
    refine vc_seq ?_
    refine vc_go (by kernel_rfl) fun K hK => hK _ _ _ ?_
    clear hK K
    refine vc_cond (t := false) rfl (fun h => by cases h) (fun _ => ?_)
    refine vc_skip ?_
    refine vc_seq ?_
    refine vc_reg (by kernel_rfl) fun K hK => ?_
    refine run_n (z := false) 3 (fun K' hK' => hK' _ _ _ ?_) (by decide)
    clear hK' K'
    refine run_ro (fun _ => (12, 0)) ((h43 c3)) ?_ rfl rfl rfl rfl ?_
    · intro x hx
      simp only [List.mem_singleton] at hx
      subst hx
      exact ⟨_, _, _, rfl, get_zero_app⟩
    refine run_end (z := false) fun K' hK' => hK' _ _ _ (hK _ _ _ ?_)
    clear hK' K' hK K
    refine vc_seq ?_
    refine vc_seq ?_
    refine vc_reg (by kernel_rfl) fun K hK => ?_
    refine run_n (z := false) 3 (fun K' hK' => hK' _ _ _ ?_) (by decide)
    clear hK' K'
    refine vgo_known 47 (b := false) (rfl) ?_
    refine run_n (z := false) 1 (fun K' hK' => hK' _ _ _ ?_) (by decide)
    clear hK' K'
    refine run_ro (fun _ => (12, 0)) ((h47 c3)) ?_ rfl rfl rfl rfl ?_
    · intro x hx
      simp only [List.mem_singleton] at hx
      subst hx
      exact ⟨_, _, _, rfl, get_zero_app⟩
    refine run_n (z := false) 3 (fun K' hK' => hK' _ _ _ ?_) (by decide)
    clear hK' K'
    refine vgo_known 52 (b := false) (rfl) ?_
    refine run_n (z := false) 10 (fun K' hK' => hK' _ _ _ ?_) (by decide)
    clear hK' K'
    refine vgo_known 62 (b := false) (bb (by rw [hw1]; simp)) ?_
    refine run_n (z := false) 7 (fun K' hK' => hK' _ _ _ ?_) (by decide)
    clear hK' K'
    refine vgo_known 69 (b := false) (bb (by simp)) ?_
    refine run_end (z := false) fun K' hK' => hK' _ _ _ (hK _ _ _ ?_)
    clear hK' K' hK K
    refine vc_cond (t := false) (bb (by simp)) (fun h => by cases h) (fun _ => ?_)
    refine vc_skip ?_
    refine vc_seq ?_
    refine vc_seq ?_
    refine vc_go (by kernel_rfl) fun K hK => hK _ _ _ ?_
    clear hK K
    refine vc_cond (t := true) rfl (fun _ => ?_) (fun h => by cases h)
    refine vc_seq ?_
    refine vc_go (by kernel_rfl) fun K hK => hK _ _ _ ?_
    clear hK K
    refine vc_ret ⟨.inr rfl, ?_⟩
    exact fin_bb ((rn_beq _ _).trans (decide_eq_true (by rw [hT]; rfl)))
  · have h40 := p40 l c2 (by omega)
    rw [topQ_yes hq, ht] at h40
    obtain ⟨jok, jlen, jget, jdel, jat, jq, jb⟩ := joinQ_ok he
    obtain ⟨_, hr, _, hb, hfit⟩ := join_fits he
    have h43 := fun c => p43 (joinQ l r b) c r.id (by omega)
    have h47 := fun c => p47 (joinQ l r b) c (by omega)
    simp only [jq, chk1_yes jok, jlen] at h43 h47
    have hw1 : IntKind.i64.wrap ((l.length : Int) + 1) = ((l.length + 1 : Nat) : Int) := by rw [wrapI (by omega) (by omega)]; omega
    have hra : rt a v = true := topS_rt (okq_mem hq) (fun x h => by cases h) _ ht
    have hv : 0 < v := (rt_w hra).1
    have hrr : rt r.n r.w = true := okR_rt hr
    have hA := hfit a v ht
    have hT : joinT l r b = joinN a v r.w (b * r.each.toNat) r.n := by unfold joinT; rw [ht]
    have hrT : rt (joinT l r b) r.w = true := rt_mk (rt_wt hrr) (joinT_lt he)
    obtain ⟨n1, n2⟩ := join_near (a := a) (v := v) (w := r.w) (k := b * r.each.toNat) (n := r.n) hv
    rw [← hT] at n1 n2
    have h48 : Pure 48 [fr (joinT l r b) r.w, fr a v] (.bool true) := by
      rcases Nat.eq_zero_or_pos (joinT l r b) with h | h
      · exact p48a hrT hra n1 h
      · refine p48b hrT hra n1 (by omega) ?_
        rcases n2 with n2 | n2
        · omega
        · unfold cmpW
          rw [if_pos n2]
          decide
    have h42 := p42y hrT hra
    have k42 := p42y hrr hra
    have h49 := fun c => leave_ok c (by omega) jok jget
    simp only [jdel, jlen, Nat.add_sub_cancel] at h49
    refine vc_reg (by kernel_rfl) fun K hK => ?_
    refine run_n (z := false) 1 (fun K' hK' => hK' _ _ _ ?_) (by decide)
    clear hK' K'
    refine run_ro (fun _ => (2, 0)) (h40) ?_ rfl rfl rfl rfl ?_
    · intro x hx
      simp only [List.mem_singleton] at hx
      subst hx
      exact ⟨_, _, _, rfl, fun i v hv => by rw [Nat.zero_add]; exact hv⟩
    refine run_end (z := false) fun K' hK' => hK' _ _ _ (hK _ _ _ ?_)
    clear hK' K' hK K
    refine vc_seq ?_
    refine vc_reg (by kernel_rfl) fun K hK => ?_
    refine run_n (z := false) 3 (fun K' hK' => hK' _ _ _ ?_) (by decide)
    clear hK' K'
    refine run_fc (fun _ => (2, 0)) h46 (hasF ⟨sf_winp (rcs_plain l) rfl get_zero, trivial⟩ rfl) rfl rfl rfl rfl ⟨_, _, 0, [], rfl, rfl, rfl⟩ ?_
    rintro _ _ ⟨c3, sp3, hp3, rfl, rfl⟩
    rw [renU_c (renB_p (plainL_append (rcs_plain _) hp3)) renU_nil]
    refine run_end (z := false) fun K' hK' => hK' _ _ _ (hK _ _ _ ?_)
    clear hK' K' hK K
    refine refocusF [(2, u64 b), (4, .pointer (some ⟨0, 0, none⟩)), (6, .bool false), (7, .pointer (some ⟨1, 0, none⟩)), (8, .pointer (some ⟨8, 0, none⟩)), (9, .bool true), (10, .pointer (some ⟨16, 0, none⟩)), (11, .int .i64 0)] [(0, .cells (rc r) 67 true), (1, .cells [.slice (some ⟨2, 0, none⟩) l.length c2] 55 true), (2, .cells (rws rc l) 67 false), (8, .cells (frc a v) 58 true), (12, .cells (rws rc (joinQ l r b) ++ sp3) 67 true), (16, .cells [.slice (some ⟨12, 0, none⟩) (l.length + 1) c3] 55 true)] 17 (by decide) ⟨rfl, rfl, rfl, rfl, rfl, rfl, rfl, rfl, trivial⟩ ⟨sb rfl, sb rfl, sb rfl, sb rfl, sb rfl, sb rfl, trivial⟩ rfl (bdH_c (by decide) (rc_plain r) (bdH_b (by decide) rfl (bdH_c (by decide) (rcs_plain l) (bdH_c (by decide) (by rfl) (bdH_c (by decide) (plainL_append (rcs_plain _) hp3) (bdH_b (by decide) rfl rfl)))))) ?_
    refine vc_seq ?_
    refine vc_seq ?_
    refine vc_go (by kernel_rfl) fun K hK => hK _ _ _ ?_
    clear hK K
    refine vc_cond (t := false) rfl (fun h => by cases h) (fun _ => ?_)
    refine vc_skip ?_
    refine vc_seq ?_
    refine vc_reg (by kernel_rfl) fun K hK => ?_
    refine run_n (z := false) 3 (fun K' hK' => hK' _ _ _ ?_) (by decide)
    clear hK' K'
    refine run_ro (fun _ => (12, 0)) ((h43 c3)) ?_ rfl rfl rfl rfl ?_
    · intro x hx
      simp only [List.mem_singleton] at hx
      subst hx
      exact ⟨_, _, _, rfl, get_zero_app⟩
    refine run_end (z := false) fun K' hK' => hK' _ _ _ (hK _ _ _ ?_)
    clear hK' K' hK K
    refine vc_seq ?_
    refine vc_seq ?_
    refine vc_reg (by kernel_rfl) fun K hK => ?_
    refine run_n (z := false) 3 (fun K' hK' => hK' _ _ _ ?_) (by decide)
    clear hK' K'
    refine vgo_known 47 (b := false) (rfl) ?_
    refine run_n (z := false) 1 (fun K' hK' => hK' _ _ _ ?_) (by decide)
    clear hK' K'
    refine run_ro (fun _ => (12, 0)) ((h47 c3)) ?_ rfl rfl rfl rfl ?_
    · intro x hx
      simp only [List.mem_singleton] at hx
      subst hx
      exact ⟨_, _, _, rfl, get_zero_app⟩
    refine run_n (z := false) 3 (fun K' hK' => hK' _ _ _ ?_) (by decide)
    clear hK' K'
    refine vgo_known 52 (b := false) (rfl) ?_
    refine run_n (z := false) 10 (fun K' hK' => hK' _ _ _ ?_) (by decide)
    clear hK' K'
    refine vgo_known 62 (b := false) (bb (by rw [hw1]; simp)) ?_
    refine run_n (z := false) 7 (fun K' hK' => hK' _ _ _ ?_) (by decide)
    clear hK' K'
    refine vgo_known 69 (b := false) (bb (by simp)) ?_
    refine run_end (z := false) fun K' hK' => hK' _ _ _ (hK _ _ _ ?_)
    clear hK' K' hK K
    refine vc_cond (t := false) (bb (by simp)) (fun h => by cases h) (fun _ => ?_)
    refine vc_skip ?_
    refine vc_seq ?_
    refine vc_seq ?_
    refine vc_go (by kernel_rfl) fun K hK => hK _ _ _ ?_
    clear hK K
    refine vc_cond (t := false) rfl (fun h => by cases h) (fun _ => ?_)
    refine vc_skip ?_
    refine vc_seq ?_
    refine vc_seq ?_
    by_cases hb0 : b = 0
    · have hz : cmpW (joinT l r b * v) (a * r.w) < 0 → False := by
        intro h
        rw [hT, hb0, Nat.zero_mul, join_zero] at h
        have := sc_ge' (a := a) (m := r.w) (d := v) hv
        unfold cmpW at h
        split at h
        · omega
        · split at h <;> simp at h
      refine vc_reg (by kernel_rfl) fun K hK => ?_
      refine run_n (z := false) 3 (fun K' hK' => hK' _ _ _ ?_) (by decide)
      clear hK' K'
      refine run_call (h48) rfl rfl rfl rfl ?_
      refine run_n (z := false) 2 (fun K' hK' => hK' _ _ _ ?_) (by decide)
      clear hK' K'
      refine vgo_known 88 (b := false) (rfl) ?_
      refine run_n (z := false) 3 (fun K' hK' => hK' _ _ _ ?_) (by decide)
      clear hK' K'
      refine vgo_known 91 (b := true) (bb (by simp [hb0])) ?_
      refine run_n (z := false) 3 (fun K' hK' => hK' _ _ _ ?_) (by decide)
      clear hK' K'
      refine run_call (h42) rfl rfl rfl rfl ?_
      refine run_end (z := false) fun K' hK' => hK' _ _ _ (hK _ _ _ ?_)
      clear hK' K' hK K
      refine vc_cond (t := false) (bb (decide_eq_false hz)) (fun h => by cases h) (fun _ => ?_)
      refine vc_skip ?_
      refine vc_seq ?_
      refine vc_seq ?_
      by_cases heq : cmpW (r.n * v) (a * r.w) = 0
      · have hTn : joinT l r b = r.n := by
          rw [hT]
          refine join_top hv ?_
          rw [cmpW_eq] at heq
          exact heq
        refine vc_reg (by kernel_rfl) fun K hK => ?_
        refine run_n (z := false) 3 (fun K' hK' => hK' _ _ _ ?_) (by decide)
        clear hK' K'
        refine run_call (k42) rfl rfl rfl rfl ?_
        refine run_n (z := false) 2 (fun K' hK' => hK' _ _ _ ?_) (by decide)
        clear hK' K'
        refine vgo_known 104 (b := true) (bb (by rw [heq]; rfl)) ?_
        refine run_end (z := false) fun K' hK' => hK' _ _ _ (hK _ _ _ ?_)
        clear hK' K' hK K
        refine vc_cond (t := false) (bb (by rw [hTn]; exact fr_neq r.n r.w)) (fun h => by cases h) (fun _ => ?_)
        refine vc_skip ?_
        refine vc_seq ?_
        refine vc_reg (by kernel_rfl) fun K hK => ?_
        refine run_n (z := false) 3 (fun K' hK' => hK' _ _ _ ?_) (by decide)
        clear hK' K'
        refine run_fc (fun _ => (12, 0)) (h49 c3) (hasF ⟨sf_winp (rcs_plain _) rfl get_zero_app, trivial⟩ rfl) rfl rfl rfl rfl ⟨_, _, _, [], Nat.le_refl _, rfl, rfl, rfl⟩ ?_
        rintro _ _ ⟨c4, sp4, _, hp4, rfl, rfl⟩
        rw [renU_c (renB_p (plainL_append (rcs_plain _) hp4)) renU_nil]
        refine run_end (z := false) fun K' hK' => hK' _ _ _ (hK _ _ _ ?_)
        clear hK' K' hK K
        refine vc_seq ?_
        refine vc_reg (by kernel_rfl) fun K hK => ?_
        refine run_n (z := false) 3 (fun K' hK' => hK' _ _ _ ?_) (by decide)
        clear hK' K'
        refine vgo_known 121 (b := true) (rfl) ?_
        refine run_n (z := false) 5 (fun K' hK' => hK' _ _ _ ?_) (by decide)
        clear hK' K'
        refine vgo_known 126 (b := true) (bb ((rn_beq _ _).trans (decide_eq_true rfl))) ?_
        refine run_n (z := false) 2 (fun K' hK' => hK' _ _ _ ?_) (by decide)
        clear hK' K'
        refine run_ro (fun k => if k = 0 then (28, 0) else (2, 0)) (same_ro l c4 c2 (by omega)) ?_ rfl rfl rfl rfl ?_
        · intro x hx
          simp only [List.mem_cons, List.mem_singleton, List.not_mem_nil, or_false] at hx
          rcases hx with rfl | rfl
          · exact ⟨_, _, _, rfl, get_zero_app⟩
          · exact ⟨_, _, _, rfl, fun i v hv => (congrArg (fun k => (rws rc l)[k]?) (Nat.zero_add i)).trans hv⟩
        refine run_end (z := false) fun K' hK' => hK' _ _ _ (hK _ _ _ ?_)
        clear hK' K' hK K
        exact vc_ret ⟨.inr rfl, rfl⟩
      · skip
        refine vc_reg (by kernel_rfl) fun K hK => ?_
        refine run_n (z := false) 3 (fun K' hK' => hK' _ _ _ ?_) (by decide)
        clear hK' K'
        refine run_call (k42) rfl rfl rfl rfl ?_
        refine run_n (z := false) 2 (fun K' hK' => hK' _ _ _ ?_) (by decide)
        clear hK' K'
        refine vgo_known 104 (b := false) (bb (beq_eq_false_iff_ne.2 heq)) ?_
        refine run_end (z := false) fun K' hK' => hK' _ _ _ (hK _ _ _ ?_)
        clear hK' K' hK K
        refine vc_cond (t := false) rfl (fun h => by cases h) (fun _ => ?_)
        refine vc_skip ?_
        refine vc_seq ?_
        refine vc_reg (by kernel_rfl) fun K hK => ?_
        refine run_n (z := false) 3 (fun K' hK' => hK' _ _ _ ?_) (by decide)
        clear hK' K'
        refine run_fc (fun _ => (12, 0)) (h49 c3) (hasF ⟨sf_winp (rcs_plain _) rfl get_zero_app, trivial⟩ rfl) rfl rfl rfl rfl ⟨_, _, _, [], Nat.le_refl _, rfl, rfl, rfl⟩ ?_
        rintro _ _ ⟨c4, sp4, _, hp4, rfl, rfl⟩
        rw [renU_c (renB_p (plainL_append (rcs_plain _) hp4)) renU_nil]
        refine run_end (z := false) fun K' hK' => hK' _ _ _ (hK _ _ _ ?_)
        clear hK' K' hK K
        refine vc_seq ?_
        refine vc_reg (by kernel_rfl) fun K hK => ?_
        refine run_n (z := false) 3 (fun K' hK' => hK' _ _ _ ?_) (by decide)
        clear hK' K'
        refine vgo_known 121 (b := true) (rfl) ?_
        refine run_n (z := false) 5 (fun K' hK' => hK' _ _ _ ?_) (by decide)
        clear hK' K'
        refine vgo_known 126 (b := true) (bb ((rn_beq _ _).trans (decide_eq_true rfl))) ?_
        refine run_n (z := false) 2 (fun K' hK' => hK' _ _ _ ?_) (by decide)
        clear hK' K'
        refine run_ro (fun k => if k = 0 then (28, 0) else (2, 0)) (same_ro l c4 c2 (by omega)) ?_ rfl rfl rfl rfl ?_
        · intro x hx
          simp only [List.mem_cons, List.mem_singleton, List.not_mem_nil, or_false] at hx
          rcases hx with rfl | rfl
          · exact ⟨_, _, _, rfl, get_zero_app⟩
          · exact ⟨_, _, _, rfl, fun i v hv => (congrArg (fun k => (rws rc l)[k]?) (Nat.zero_add i)).trans hv⟩
        refine run_end (z := false) fun K' hK' => hK' _ _ _ (hK _ _ _ ?_)
        clear hK' K' hK K
        exact vc_ret ⟨.inr rfl, rfl⟩
    · skip
      refine vc_reg (by kernel_rfl) fun K hK => ?_
      refine run_n (z := false) 3 (fun K' hK' => hK' _ _ _ ?_) (by decide)
      clear hK' K'
      refine run_call (h48) rfl rfl rfl rfl ?_
      refine run_n (z := false) 2 (fun K' hK' => hK' _ _ _ ?_) (by decide)
      clear hK' K'
      refine vgo_known 88 (b := false) (rfl) ?_
      refine run_n (z := false) 3 (fun K' hK' => hK' _ _ _ ?_) (by decide)
      clear hK' K'
      refine vgo_known 91 (b := false) (bb (by simp; omega)) ?_
      refine run_end (z := false) fun K' hK' => hK' _ _ _ (hK _ _ _ ?_)
      clear hK' K' hK K
      refine vc_cond (t := false) rfl (fun h => by cases h) (fun _ => ?_)
      refine vc_skip ?_
      refine vc_seq ?_
      refine vc_seq ?_
      by_cases heq : cmpW (r.n * v) (a * r.w) = 0
      · have hTn : joinT l r b = r.n := by
          rw [hT]
          refine join_top hv ?_
          rw [cmpW_eq] at heq
          exact heq
        refine vc_reg (by kernel_rfl) fun K hK => ?_
        refine run_n (z := false) 3 (fun K' hK' => hK' _ _ _ ?_) (by decide)
        clear hK' K'
        refine run_call (k42) rfl rfl rfl rfl ?_
        refine run_n (z := false) 2 (fun K' hK' => hK' _ _ _ ?_) (by decide)
        clear hK' K'
        refine vgo_known 104 (b := true) (bb (by rw [heq]; rfl)) ?_
        refine run_end (z := false) fun K' hK' => hK' _ _ _ (hK _ _ _ ?_)
        clear hK' K' hK K
        refine vc_cond (t := false) (bb (by rw [hTn]; exact fr_neq r.n r.w)) (fun h => by cases h) (fun _ => ?_)
        refine vc_skip ?_
        refine vc_seq ?_
        refine vc_reg (by kernel_rfl) fun K hK => ?_
        refine run_n (z := false) 3 (fun K' hK' => hK' _ _ _ ?_) (by decide)
        clear hK' K'
        refine run_fc (fun _ => (12, 0)) (h49 c3) (hasF ⟨sf_winp (rcs_plain _) rfl get_zero_app, trivial⟩ rfl) rfl rfl rfl rfl ⟨_, _, _, [], Nat.le_refl _, rfl, rfl, rfl⟩ ?_
        rintro _ _ ⟨c4, sp4, _, hp4, rfl, rfl⟩
        rw [renU_c (renB_p (plainL_append (rcs_plain _) hp4)) renU_nil]
        refine run_end (z := false) fun K' hK' => hK' _ _ _ (hK _ _ _ ?_)
        clear hK' K' hK K
        refine vc_seq ?_
        refine vc_reg (by kernel_rfl) fun K hK => ?_
        refine run_n (z := false) 3 (fun K' hK' => hK' _ _ _ ?_) (by decide)
        clear hK' K'
        refine vgo_known 121 (b := true) (rfl) ?_
        refine run_n (z := false) 5 (fun K' hK' => hK' _ _ _ ?_) (by decide)
        clear hK' K'
        refine vgo_known 126 (b := true) (bb ((rn_beq _ _).trans (decide_eq_true rfl))) ?_
        refine run_n (z := false) 2 (fun K' hK' => hK' _ _ _ ?_) (by decide)
        clear hK' K'
        refine run_ro (fun k => if k = 0 then (28, 0) else (2, 0)) (same_ro l c4 c2 (by omega)) ?_ rfl rfl rfl rfl ?_
        · intro x hx
          simp only [List.mem_cons, List.mem_singleton, List.not_mem_nil, or_false] at hx
          rcases hx with rfl | rfl
          · exact ⟨_, _, _, rfl, get_zero_app⟩
          · exact ⟨_, _, _, rfl, fun i v hv => (congrArg (fun k => (rws rc l)[k]?) (Nat.zero_add i)).trans hv⟩
        refine run_end (z := false) fun K' hK' => hK' _ _ _ (hK _ _ _ ?_)
        clear hK' K' hK K
        exact vc_ret ⟨.inr rfl, rfl⟩
      · skip
        refine vc_reg (by kernel_rfl) fun K hK => ?_
        refine run_n (z := false) 3 (fun K' hK' => hK' _ _ _ ?_) (by decide)
        clear hK' K'
        refine run_call (k42) rfl rfl rfl rfl ?_
        refine run_n (z := false) 2 (fun K' hK' => hK' _ _ _ ?_) (by decide)
        clear hK' K'
        refine vgo_known 104 (b := false) (bb (beq_eq_false_iff_ne.2 heq)) ?_
        refine run_end (z := false) fun K' hK' => hK' _ _ _ (hK _ _ _ ?_)
        clear hK' K' hK K
        refine vc_cond (t := false) rfl (fun h => by cases h) (fun _ => ?_)
        refine vc_skip ?_
        refine vc_seq ?_
        refine vc_reg (by kernel_rfl) fun K hK => ?_
        refine run_n (z := false) 3 (fun K' hK' => hK' _ _ _ ?_) (by decide)
        clear hK' K'
        refine run_fc (fun _ => (12, 0)) (h49 c3) (hasF ⟨sf_winp (rcs_plain _) rfl get_zero_app, trivial⟩ rfl) rfl rfl rfl rfl ⟨_, _, _, [], Nat.le_refl _, rfl, rfl, rfl⟩ ?_
        rintro _ _ ⟨c4, sp4, _, hp4, rfl, rfl⟩
        rw [renU_c (renB_p (plainL_append (rcs_plain _) hp4)) renU_nil]
        refine run_end (z := false) fun K' hK' => hK' _ _ _ (hK _ _ _ ?_)
        clear hK' K' hK K
        refine vc_seq ?_
        refine vc_reg (by kernel_rfl) fun K hK => ?_
        refine run_n (z := false) 3 (fun K' hK' => hK' _ _ _ ?_) (by decide)
        clear hK' K'
        refine vgo_known 121 (b := true) (rfl) ?_
        refine run_n (z := false) 5 (fun K' hK' => hK' _ _ _ ?_) (by decide)
        clear hK' K'
        refine vgo_known 126 (b := true) (bb ((rn_beq _ _).trans (decide_eq_true rfl))) ?_
        refine run_n (z := false) 2 (fun K' hK' => hK' _ _ _ ?_) (by decide)
        clear hK' K'
        refine run_ro (fun k => if k = 0 then (28, 0) else (2, 0)) (same_ro l c4 c2 (by omega)) ?_ rfl rfl rfl rfl ?_
        · intro x hx
          simp only [List.mem_cons, List.mem_singleton, List.not_mem_nil, or_false] at hx
          rcases hx with rfl | rfl
          · exact ⟨_, _, _, rfl, get_zero_app⟩
          · exact ⟨_, _, _, rfl, fun i v hv => (congrArg (fun k => (rws rc l)[k]?) (Nat.zero_add i)).trans hv⟩
        refine run_end (z := false) fun K' hK' => hK' _ _ _ (hK _ _ _ ?_)
        clear hK' K' hK K
        exact vc_ret ⟨.inr rfl, rfl⟩
end Go.Proofs.Ytdfkcijholopoaa.Vm
