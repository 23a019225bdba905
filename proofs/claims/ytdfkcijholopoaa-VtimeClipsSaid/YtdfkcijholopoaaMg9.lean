/- What the proofs stand on, in one text: Te, Tf. -/
import Derived.Test.YtdfkcijholopoaaMg8
namespace Go.Proofs.Ytdfkcijholopoaa.Vm
open Go Go.RowKit
set_option maxRecDepth 10000
set_option linter.unusedSimpArgs false
set_option linter.unusedVariables false


theorem rcb (K : Nat) (r : Rn) : bdL K (rc r) = true := rfl
def insQ (l : List Rn) (i : Nat) (r : Rn) : List Rn := l.take i ++ r :: l.drop i
theorem rws_take_drop (l : List Rn) (i : Nat) : rws rc l = rws rc (l.take i) ++ rws rc (l.drop i) := by rw [← rws_append, List.take_append_drop]
theorem rws_ins (l : List Rn) (i : Nat) (r : Rn) : rws rc (insQ l i r) = rws rc (l.take i) ++ (rc r ++ rws rc (l.drop i)) := by rw [insQ, rws_append]; rfl
theorem take_len {l : List Rn} {i : Nat} (h : i ≤ l.length) : (rws rc (l.take i)).length = i * 5 := by rw [rws_len rc_len, List.length_take, Nat.min_eq_left h]
theorem drop_len (l : List Rn) (i : Nat) : (rws rc (l.drop i)).length = (l.length - i) * 5 := by rw [rws_len rc_len, List.length_drop]
theorem sbe {h : Nat → Option Blk} {k : Nat} {c c0 : List Value} {t : TypeId} (e : h k = some (.cells c t true)) (hc : c = c0) : Sb h k (.cells c0 t true) := by subst hc; exact sb e
theorem sbu_eq {s : St} {F : Nat → Nat × Nat} {k : Nat} {c c0 : List Value} {t : TypeId} (hp : plainL c0 = true) (e : s.h (F k).1 = some (.cells c t true)) (hc : c = c0) : SbU s F k (.cells c0 t true) := by subst hc; exact sbu hp e
/-- What lies in a row: a slice of it. -/
theorem seg_at {h : Nat → Option Blk} {m j n c : Nat} {cs : List Value} {t : TypeId} {own : Bool} {q : List Rn} (hm : h m = some (.cells cs t own)) (hn : q.length = n) (hw : ∀ (i : Nat) (v : Value), (rws rc q)[i]? = some v → cs[j + i]? = some v) : Seg h 5 (.slice (some ⟨m, j, none⟩) n c) n c (rws rc q) [m] :=
  .cells hm (by rw [rws_len rc_len, hn]) hw
theorem get_mid {P Q R : List Value} {j : Nat} (hj : P.length = j) : ∀ (i : Nat) (v : Value), Q[i]? = some v → (P ++ Q ++ R)[j + i]? = some v := by
  intro i v h
  have hi := (List.getElem?_eq_some_iff.1 h).1
  rw [List.append_assoc, List.getElem?_append_right (by omega), ← hj, Nat.add_sub_cancel_left, List.getElem?_append_left hi]
  exact h
theorem get_drop {l : List Rn} {sp : List Value} {i j : Nat} (hi : i ≤ l.length) (hj : j = i * 5) : ∀ (k : Nat) (v : Value), (rws rc (l.drop i))[k]? = some v → (rws rc l ++ sp)[j + k]? = some v := by
  rw [rws_take_drop l i]
  exact get_mid (by rw [take_len hi, hj])
theorem get_take {l : List Rn} {sp : List Value} {i : Nat} : ∀ (k : Nat) (v : Value), (rws rc (l.take i))[k]? = some v → (rws rc l ++ sp)[0 + k]? = some v := by
  rw [rws_take_drop l i, List.append_assoc]
  exact get_zero_app
theorem ins_end {l : List Rn} {sp : List Value} {r : Rn} {i : Nat} (hi : i = l.length) : (rws rc l ++ sp).take (0 + l.length * z5.length) ++ rc r ++ (rws rc l ++ sp).drop (0 + l.length * z5.length + (rc r).length) = rws rc (insQ l i r) ++ sp.drop 5 := by
  subst hi
  have hl : (rws rc l).length = 0 + l.length * z5.length := by rw [rws_len rc_len, Nat.zero_add]; rfl
  rw [← hl, List.take_left, ← List.drop_drop, List.drop_left, rws_ins, List.take_length, List.drop_length]
  simp [rws, rc_len, List.append_assoc]
theorem ins_mid {P Q R sp : List Value} {a b : Nat} (ha : P.length = a) (hb : a + 5 + Q.length = b) (hR : R.length = 5) (hs : 5 ≤ (Q ++ sp).length) :
    ((P ++ Q ++ sp).take (a + 5) ++ Q ++ (P ++ Q ++ sp).drop b).take a ++ R ++ ((P ++ Q ++ sp).take (a + 5) ++ Q ++ (P ++ Q ++ sp).drop b).drop (a + R.length) = P ++ (R ++ Q) ++ sp.drop 5 := by
  have hA : ((P ++ Q ++ sp).take (a + 5)).length = a + 5 := by rw [List.length_take, List.append_assoc, List.length_append]; omega
  have e1 : ((P ++ Q ++ sp).take (a + 5) ++ Q ++ (P ++ Q ++ sp).drop b).take a = P := by
    rw [List.append_assoc, List.take_append_of_le_length (by omega), List.take_take, Nat.min_eq_left (by omega), List.append_assoc, ← ha, List.take_left]
  have e2 : ((P ++ Q ++ sp).take (a + 5) ++ Q ++ (P ++ Q ++ sp).drop b).drop (a + R.length) = Q ++ sp.drop 5 := by
    rw [hR, List.append_assoc]
    rw [List.drop_left' hA, ← hb, show a + 5 + Q.length = (P ++ Q).length + 5 by rw [List.length_append]; omega, ← List.drop_drop, List.drop_left]
  rw [e1, e2]
  simp [List.append_assoc]
theorem ins_new {P Q R Z1 Z2 : List Value} {a b : Nat} (ha : P.length = a) (hb : a + 5 + Q.length = b) (hR : R.length = 5) (hZ : Z1.length = 5 + Q.length) :
    ((P ++ Z1 ++ Z2).take a ++ R ++ (P ++ Z1 ++ Z2).drop (a + R.length)).take (a + 5) ++ Q ++ ((P ++ Z1 ++ Z2).take a ++ R ++ (P ++ Z1 ++ Z2).drop (a + R.length)).drop b = P ++ (R ++ Q) ++ Z2 := by
  have e0 : (P ++ Z1 ++ Z2).take a = P := by rw [List.append_assoc, ← ha, List.take_left]
  rw [e0]
  have hPR : (P ++ R).length = a + 5 := by rw [List.length_append]; omega
  have e1 : (P ++ R ++ (P ++ Z1 ++ Z2).drop (a + R.length)).take (a + 5) = P ++ R := by rw [← hPR, List.take_left]
  have e2 : (P ++ R ++ (P ++ Z1 ++ Z2).drop (a + R.length)).drop b = Z2 := by
    rw [← hb, ← hPR, ← List.drop_drop, List.drop_left, List.drop_drop, hR, show a + 5 + Q.length = (P ++ Z1).length by rw [List.length_append]; omega, List.drop_left]
  rw [e1, e2]
  simp [List.append_assoc]
section
variable {ev : Operand → Value} {h : Nat → Option Blk}
theorem vex_tail' {t e : Nat} {x lo : Operand} {m len cap j : Nat} {k : IntKind} {i : Int} {ag : Bool} {z : List Value} (hx : ev x = .slice (some ⟨m, 0, none⟩) len cap) (hh : ev lo = .int k i) (hij : i = j) (hj : j ≤ len) (hne : cap ≠ j) (ht : sl t = some e) (hz : ty e = some (ag, z)) :
    vex ev h (.slice t x (some lo) none none) = some (.val (.slice (some ⟨m, j * z.length, none⟩) (len - j) (cap - j))) := by
  rw [vex_tail hx hh hij hj ht hz, if_neg hne]
end
theorem wrapNk {n : Int} {k : Nat} (h : n = k) (hk : k < 2 ^ 62) : IntKind.i64.wrap n = (k : Int) := by rw [wrapI (by omega) (by omega), h]

theorem plainL_drop {l : List Value} (h : plainL l = true) (k : Nat) : plainL (l.drop k) = true := by
  rw [plainL_iff] at *
  exact fun v hv => h v (List.mem_of_mem_drop hv)

theorem ins_grow {l : List Rn} {r : Rn} {i : Nat} {X : List Value} (hi : i = l.length) : rws rc l ++ rc r ++ X = rws rc (insQ l i r) ++ X := by
  subst hi
  rw [rws_ins, List.take_length, List.drop_length]
  simp [rws]


theorem p122a {l : List Rn} {r : Rn} {i c : Nat} {sp : List Value} (hl : l.length ≤ 1000) (hc : l.length ≤ c) (hsp : plainL sp = true) (hsl : sp.length = (c - l.length) * 5) (hi : i = l.length) (hroom : l.length + 1 ≤ c) : FC 122 [.slice (some ⟨0, 0, none⟩) l.length c, .int .i64 (i : Nat), .slice (some ⟨1, 0, none⟩) 1 1] 2 [(0, .cells (rws rc l ++ sp) 67 true), (1, .cells (rc r) 67 true)] (fun v u => (∃ c2 sp2, plainL sp2 = true ∧ v = .slice (some ⟨0, 0, none⟩) (l.length + 1) c2 ∧ u = [(0, .cells (rws rc (insQ l i r) ++ sp2) 67 true), (1, .cells (rc r) 67 true)]) ∨ (∃ c2 sp2, plainL sp2 = true ∧ v = .slice (some ⟨2, 0, none⟩) (l.length + 1) c2 ∧ u = [(0, .cells (rws rc l ++ sp) 67 true), (1, .cells (rc r) 67 true), (2, .cells (rws rc (insQ l i r) ++ sp2) 67 true)])) := by
  have hsp5 : plainL (sp.drop 5) = true := plainL_drop hsp 5
  refine fc_of [(0, .cells (rws rc l ++ sp) 67 true), (1, .cells (rc r) 67 true)] 2 Try.func122 rfl Try.ntmps122 (by kernel_rfl) (by simp) rfl (by simp [bdH, bdB, bdL_plain, plainL_append (rcs_plain l) hsp, rcb]) (hall_of rfl) ?_
  refine vc_seq ?_
  refine vc_go (by kernel_rfl) fun K hK => hK _ _ _ ?_
  clear hK K
  refine vc_seq ?_
  refine vc_reg (by kernel_rfl) fun K hK => ?_
  refine run_n (z := false) 2 (fun K' hK' => hK' _ _ _ ?_) (by decide)
  clear hK' K'
  refine run_op (vex_tail (j := i) rfl rfl rfl (by omega) rfl rfl) rfl ?_
  refine run_end (z := false) fun K' hK' => hK' _ _ _ (hK _ _ _ ?_)
  clear hK' K' hK K
  refine vc_seq ?_
  refine vc_go (by kernel_rfl) fun K hK => hK _ _ _ ?_
  clear hK K
  refine vc_seq ?_
  refine vc_seq ?_
  refine vc_go (by kernel_rfl) fun K hK => hK _ _ _ ?_
  clear hK K
  refine vc_cond (t := false) rfl (fun h => by cases h) (fun _ => ?_)
  refine vc_skip ?_
  refine vc_seq ?_
  refine vc_go (by kernel_rfl) fun K hK => hK _ _ _ ?_
  clear hK K
  refine vc_seq ?_
  refine vc_seq ?_
  refine vc_go (by kernel_rfl) fun K hK => hK _ _ _ ?_
  clear hK K
  refine vc_cond (t := true) (bb (by rw [hi]; simp)) (fun _ => ?_) (fun h => by cases h)
  refine vc_seq ?_
  refine vc_reg (by kernel_rfl) fun K hK => ?_
  refine run_n (z := false) 2 (fun K' hK' => hK' _ _ _ ?_) (by decide)
  clear hK' K'
  refine run_sp (sp_append_room (z := z5) rfl rfl rfl el67 rfl rfl (.cells (own := true) (t := 67) (l := rc r) rfl rfl get_zero) rfl hroom (by rw [List.length_append, rws_len rc_len]; show 0 + l.length * 5 + 5 ≤ _; omega)) rfl rfl rfl ⟨_, _, rfl, rfl⟩ ?_
  rintro _ _ ⟨rfl, rfl⟩
  refine run_end (z := false) fun K' hK' => hK' _ _ _ (hK _ _ _ ?_)
  clear hK' K' hK K
  refine vc_ret ⟨.inr rfl, ?_⟩
  refine res_of 2 _ _ (.inl ⟨c, sp.drop 5, hsp5, rfl, rfl⟩) (by decide) rfl rfl ⟨sbu_eq (plainL_append (rcs_plain _) hsp5) rfl (ins_end hi), sbu (rc_plain r) rfl, trivial⟩ (by simp [bdH, bdB, bdL_plain, plainL_append (rcs_plain _) hsp5, rcb]) rfl (.inr (Nat.le_refl 2))

theorem p122b {l : List Rn} {r : Rn} {i c : Nat} {sp : List Value} (hl : l.length ≤ 1000) (hc : l.length ≤ c) (hsp : plainL sp = true) (hsl : sp.length = (c - l.length) * 5) (hi : i = l.length) (hroom : c < l.length + 1) : FC 122 [.slice (some ⟨0, 0, none⟩) l.length c, .int .i64 (i : Nat), .slice (some ⟨1, 0, none⟩) 1 1] 2 [(0, .cells (rws rc l ++ sp) 67 true), (1, .cells (rc r) 67 true)] (fun v u => (∃ c2 sp2, plainL sp2 = true ∧ v = .slice (some ⟨0, 0, none⟩) (l.length + 1) c2 ∧ u = [(0, .cells (rws rc (insQ l i r) ++ sp2) 67 true), (1, .cells (rc r) 67 true)]) ∨ (∃ c2 sp2, plainL sp2 = true ∧ v = .slice (some ⟨2, 0, none⟩) (l.length + 1) c2 ∧ u = [(0, .cells (rws rc l ++ sp) 67 true), (1, .cells (rc r) 67 true), (2, .cells (rws rc (insQ l i r) ++ sp2) 67 true)])) := by
  refine fc_of [(0, .cells (rws rc l ++ sp) 67 true), (1, .cells (rc r) 67 true)] 2 Try.func122 rfl Try.ntmps122 (by kernel_rfl) (by simp) rfl (by simp [bdH, bdB, bdL_plain, plainL_append (rcs_plain l) hsp, rcb]) (hall_of rfl) ?_
  refine vc_seq ?_
  refine vc_go (by kernel_rfl) fun K hK => hK _ _ _ ?_
  clear hK K
  refine vc_seq ?_
  refine vc_reg (by kernel_rfl) fun K hK => ?_
  refine run_n (z := false) 2 (fun K' hK' => hK' _ _ _ ?_) (by decide)
  clear hK' K'
  refine run_op (vex_tail (j := i) rfl rfl rfl (by omega) rfl rfl) rfl ?_
  refine run_end (z := false) fun K' hK' => hK' _ _ _ (hK _ _ _ ?_)
  clear hK' K' hK K
  refine vc_seq ?_
  refine vc_go (by kernel_rfl) fun K hK => hK _ _ _ ?_
  clear hK K
  refine vc_seq ?_
  refine vc_seq ?_
  refine vc_go (by kernel_rfl) fun K hK => hK _ _ _ ?_
  clear hK K
  refine vc_cond (t := false) rfl (fun h => by cases h) (fun _ => ?_)
  refine vc_skip ?_
  refine vc_seq ?_
  refine vc_go (by kernel_rfl) fun K hK => hK _ _ _ ?_
  clear hK K
  refine vc_seq ?_
  refine vc_seq ?_
  refine vc_go (by kernel_rfl) fun K hK => hK _ _ _ ?_
  clear hK K
  refine vc_cond (t := true) (bb (by rw [hi]; simp)) (fun _ => ?_) (fun h => by cases h)
  refine vc_seq ?_
  refine vc_reg (by kernel_rfl) fun K hK => ?_
  refine run_n (z := false) 2 (fun K' hK' => hK' _ _ _ ?_) (by decide)
  clear hK' K'
  refine run_sp (sp_append_grow (z := z5) rfl rfl rfl el67 (.cells (own := true) (t := 67) (l := rws rc l) rfl (rws_len rc_len l) get_zero_app) (.cells (own := true) (t := 67) (l := rc r) rfl rfl get_zero) rfl hroom (by omega)) rfl rfl rfl ⟨_, _, _, Nat.le_refl _, rfl, rfl⟩ ?_
  rintro _ _ ⟨cap, hcap, rfl, rfl⟩
  refine run_end (z := false) fun K' hK' => hK' _ _ _ (hK _ _ _ ?_)
  clear hK' K' hK K
  refine vc_ret ⟨.inr rfl, ?_⟩
  refine res_of 4 _ _ (.inr ⟨cap, zrow (cap - (l.length + 1)) z5, zrow_plain rfl _, rfl, rfl⟩) (by decide) rfl rfl ⟨sbu (plainL_append (rcs_plain l) hsp) rfl, sbu (rc_plain r) rfl, sbu_eq (plainL_append (rcs_plain _) (zrow_plain rfl _)) rfl (ins_grow hi), trivial⟩ (by simp [bdH, bdB, bdL_plain, plainL_append (rcs_plain l) hsp, plainL_append (rcs_plain _) (zrow_plain (z := z5) rfl _), rcb]) rfl (.inl (by simp))
theorem plainL_take {l : List Value} (h : plainL l = true) (k : Nat) : plainL (l.take k) = true := by
  rw [plainL_iff] at *
  exact fun v hv => h v (List.mem_of_mem_take hv)
theorem len_y0 {l : List Rn} {i k q : Nat} (hi : i ≤ l.length) : (rws rc (l.take i) ++ zrow k z5 ++ zrow q z5).length = i * 5 + k * 5 + q * 5 := by
  rw [List.length_append, List.length_append, take_len hi, zrow_len, zrow_len]
  rfl

theorem ins_newQ {l : List Rn} {r : Rn} {i cap : Nat} (hi : i < l.length) : ((rws rc (l.take i) ++ zrow (l.length + 1 - i) z5 ++ zrow (cap - (l.length + 1)) z5).take (i * 5) ++ rc r ++ (rws rc (l.take i) ++ zrow (l.length + 1 - i) z5 ++ zrow (cap - (l.length + 1)) z5).drop (i * 5 + (rc r).length)).take ((i + 1) * z5.length) ++ rws rc (l.drop i) ++ ((rws rc (l.take i) ++ zrow (l.length + 1 - i) z5 ++ zrow (cap - (l.length + 1)) z5).take (i * 5) ++ rc r ++ (rws rc (l.take i) ++ zrow (l.length + 1 - i) z5 ++ zrow (cap - (l.length + 1)) z5).drop (i * 5 + (rc r).length)).drop ((i + 1) * z5.length + (rws rc (l.drop i)).length) = (rws rc (insQ l i r) ++ zrow (cap - (l.length + 1)) z5) := by
  have h := ins_new (P := rws rc (l.take i)) (Q := rws rc (l.drop i)) (R := rc r) (Z1 := (zrow (l.length + 1 - i) z5)) (Z2 := zrow (cap - (l.length + 1)) z5) (a := i * 5) (b := i * 5 + 5 + (rws rc (l.drop i)).length) (take_len (by omega)) rfl rfl (by rw [zrow_len, drop_len]; show (l.length + 1 - i) * 5 = _; omega)
  rw [show (i + 1) * z5.length = i * 5 + 5 from Nat.succ_mul i 5, h, rws_ins]


theorem p122c {l : List Rn} {r : Rn} {i c : Nat} {sp : List Value} (hl : l.length ≤ 1000) (hc : l.length ≤ c) (hsp : plainL sp = true) (hsl : sp.length = (c - l.length) * 5) (hi : i < l.length) (hroom : c < l.length + 1) : FC 122 [.slice (some ⟨0, 0, none⟩) l.length c, .int .i64 (i : Nat), .slice (some ⟨1, 0, none⟩) 1 1] 2 [(0, .cells (rws rc l ++ sp) 67 true), (1, .cells (rc r) 67 true)] (fun v u => (∃ c2 sp2, plainL sp2 = true ∧ v = .slice (some ⟨0, 0, none⟩) (l.length + 1) c2 ∧ u = [(0, .cells (rws rc (insQ l i r) ++ sp2) 67 true), (1, .cells (rc r) 67 true)]) ∨ (∃ c2 sp2, plainL sp2 = true ∧ v = .slice (some ⟨2, 0, none⟩) (l.length + 1) c2 ∧ u = [(0, .cells (rws rc l ++ sp) 67 true), (1, .cells (rc r) 67 true), (2, .cells (rws rc (insQ l i r) ++ sp2) 67 true)])) := by
  have w1 : IntKind.i64.wrap ((l.length : Int) + ((1 : Nat) : Int)) = ((l.length + 1 : Nat) : Int) := by rw [wrapI (by omega) (by omega)]; omega
  have w2 : IntKind.i64.wrap ((i : Int) + ((1 : Nat) : Int)) = ((i + 1 : Nat) : Int) := by rw [wrapI (by omega) (by omega)]; omega
  have w3 : IntKind.i64.wrap (IntKind.i64.wrap ((l.length : Int) + ((1 : Nat) : Int)) - (i : Int)) = ((l.length + 1 - i : Nat) : Int) := by rw [w1, wrapI (by omega) (by omega)]; omega
  refine fc_of [(0, .cells (rws rc l ++ sp) 67 true), (1, .cells (rc r) 67 true)] 2 Try.func122 rfl Try.ntmps122 (by kernel_rfl) (by simp) rfl (by simp [bdH, bdB, bdL_plain, plainL_append (rcs_plain l) hsp, rcb]) (hall_of rfl) ?_
  refine vc_seq ?_
  refine vc_go (by kernel_rfl) fun K hK => hK _ _ _ ?_
  clear hK K
  refine vc_seq ?_
  refine vc_reg (by kernel_rfl) fun K hK => ?_
  refine run_n (z := false) 2 (fun K' hK' => hK' _ _ _ ?_) (by decide)
  clear hK' K'
  refine run_op (vex_tail (j := i) rfl rfl rfl (by omega) rfl rfl) rfl ?_
  refine run_end (z := false) fun K' hK' => hK' _ _ _ (hK _ _ _ ?_)
  clear hK' K' hK K
  refine vc_seq ?_
  refine vc_go (by kernel_rfl) fun K hK => hK _ _ _ ?_
  clear hK K
  refine vc_seq ?_
  refine vc_seq ?_
  refine vc_go (by kernel_rfl) fun K hK => hK _ _ _ ?_
  clear hK K
  refine vc_cond (t := false) rfl (fun h => by cases h) (fun _ => ?_)
  refine vc_skip ?_
  refine vc_seq ?_
  refine vc_go (by kernel_rfl) fun K hK => hK _ _ _ ?_
  clear hK K
  refine vc_seq ?_
  refine vc_seq ?_
  refine vc_go (by kernel_rfl) fun K hK => hK _ _ _ ?_
  clear hK K
  refine vc_cond (t := false) (bb (by rw [beq_eq_false_iff_ne]; omega)) (fun h => by cases h) (fun _ => ?_)
  refine vc_skip ?_
  refine vc_seq ?_
  refine vc_seq ?_
  refine vc_go (by kernel_rfl) fun K hK => hK _ _ _ ?_
  clear hK K
  refine vc_cond (t := true) (bb (by rw [decide_eq_true_eq]; show IntKind.i64.wrap _ > _; rw [w1]; omega)) (fun _ => ?_) (fun h => by cases h)
  refine vc_seq ?_
  refine vc_reg (by kernel_rfl) fun K hK => ?_
  refine run_n (z := false) 2 (fun K' hK' => hK' _ _ _ ?_) (by decide)
  clear hK' K'
  refine run_op (vex_cut (j := i) rfl rfl rfl (by omega) rfl rfl) rfl ?_
  refine run_n (z := false) 5 (fun K' hK' => hK' _ _ _ ?_) (by decide)
  clear hK' K'
  refine run_sp (sp_append_zeros (z := z5) (k := l.length + 1 - i) (olds := rws rc (l.take i)) rfl rfl el67 (seg_at rfl (by rw [List.length_take]; omega) get_take) rfl w3 (by omega) (by omega) (by omega)) rfl rfl rfl ⟨_, _, _, Nat.le_refl _, rfl, rfl⟩ ?_
  rw [show i + (l.length + 1 - i) = l.length + 1 by omega]
  rintro _ _ ⟨cap, hcap, rfl, rfl⟩
  refine run_end (z := false) fun K' hK' => hK' _ _ _ (hK _ _ _ ?_)
  clear hK' K' hK K
  refine refocusF [(0, .slice (some ⟨0, 0, none⟩) l.length c), (1, .int .i64 (i : Nat)), (2, .slice (some ⟨1, 0, none⟩) 1 1), (6, .slice none 0 0), (7, .int .i64 (1 : Nat)), (8, .int .i64 (l.length : Int)), (9, .slice (some ⟨10, 0, none⟩) (l.length + 1) cap)] [(0, .cells (rws rc l ++ sp) 67 true), (1, .cells (rc r) 67 true), (10, .cells (rws rc (l.take i) ++ zrow (l.length + 1 - i) z5 ++ zrow (cap - (l.length + 1)) z5) 67 true)] 11 (by decide) ⟨rfl, rfl, rfl, rfl, rfl, rfl, rfl, trivial⟩ ⟨sb rfl, sb rfl, sb rfl, trivial⟩ rfl (bdH_c (by decide) (plainL_append (rcs_plain l) hsp) (bdH_c (by decide) (rc_plain r) (bdH_c (by decide) (plainL_append (plainL_append (rcs_plain _) (zrow_plain rfl _)) (zrow_plain rfl _)) rfl))) ?_
  refine vc_seq ?_
  refine vc_reg (by kernel_rfl) fun K hK => ?_
  refine run_n (z := false) 2 (fun K' hK' => hK' _ _ _ ?_) (by decide)
  clear hK' K'
  refine run_op (vex_tail' (j := i) rfl rfl rfl (by omega) (by omega) rfl rfl) rfl ?_
  refine run_n (z := false) 1 (fun K' hK' => hK' _ _ _ ?_) (by decide)
  clear hK' K'
  refine run_sp (sp_copy (z := z5) (cnt := 1) (news := rc r) rfl rfl rfl rfl rfl rfl (.cells (own := true) (t := 67) (l := rc r) rfl rfl get_zero) (by rw [show l.length + 1 - i = (l.length - i) + 1 by omega]; exact (Nat.min_eq_left (by omega)).symm) rfl (by rw [len_y0 (by omega)]; show i * 5 + 5 ≤ _; omega)) rfl rfl rfl ⟨_, _, rfl, rfl⟩ ?_
  rintro _ _ ⟨rfl, rfl⟩
  refine run_end (z := false) fun K' hK' => hK' _ _ _ (hK _ _ _ ?_)
  clear hK' K' hK K
  have py1 : plainL ((rws rc (l.take i) ++ zrow (l.length + 1 - i) z5 ++ zrow (cap - (l.length + 1)) z5).take (i * 5) ++ rc r ++ (rws rc (l.take i) ++ zrow (l.length + 1 - i) z5 ++ zrow (cap - (l.length + 1)) z5).drop (i * 5 + (rc r).length)) = true := plainL_append (plainL_append (plainL_take (plainL_append (plainL_append (rcs_plain _) (zrow_plain rfl _)) (zrow_plain rfl _)) _) (rc_plain r)) (plainL_drop (plainL_append (plainL_append (rcs_plain _) (zrow_plain rfl _)) (zrow_plain rfl _)) _)
  have ly1 : i * 5 + (l.length + 1 - i) * 5 + (cap - (l.length + 1)) * 5 = ((rws rc (l.take i) ++ zrow (l.length + 1 - i) z5 ++ zrow (cap - (l.length + 1)) z5).take (i * 5) ++ rc r ++ (rws rc (l.take i) ++ zrow (l.length + 1 - i) z5 ++ zrow (cap - (l.length + 1)) z5).drop (i * 5 + (rc r).length)).length := by
    rw [List.length_append, List.length_append, List.length_take, List.length_drop, len_y0 (by omega), rc_len]
    omega
  refine refocusF [(0, .slice (some ⟨0, 0, none⟩) l.length c), (1, .int .i64 (i : Nat)), (2, .slice (some ⟨1, 0, none⟩) 1 1), (6, .slice none 0 0), (7, .int .i64 (1 : Nat)), (8, .int .i64 (l.length : Int)), (9, .slice (some ⟨10, 0, none⟩) (l.length + 1) cap)] [(0, .cells (rws rc l ++ sp) 67 true), (1, .cells (rc r) 67 true), (10, .cells ((rws rc (l.take i) ++ zrow (l.length + 1 - i) z5 ++ zrow (cap - (l.length + 1)) z5).take (i * 5) ++ rc r ++ (rws rc (l.take i) ++ zrow (l.length + 1 - i) z5 ++ zrow (cap - (l.length + 1)) z5).drop (i * 5 + (rc r).length)) 67 true)] 11 (by decide) ⟨rfl, rfl, rfl, rfl, rfl, rfl, rfl, trivial⟩ ⟨sb rfl, sb rfl, sb rfl, trivial⟩ rfl (bdH_c (by decide) (plainL_append (rcs_plain l) hsp) (bdH_c (by decide) (rc_plain r) (bdH_c (by decide) (py1) rfl))) ?_
  refine vc_seq ?_
  refine vc_regD [] (by kernel_rfl) (by kernel_rfl) fun K hK => ?_
  refine runD_n (z := false) 4 (fun K' hK' => hK' _ _ _ _ ?_) (by decide)
  clear hK' K'
  refine runD_op (vex_tail' (j := i + 1) rfl rfl w2 (by omega) (by omega) rfl rfl) rfl ?_
  refine runD_n (z := false) 2 (fun K' hK' => hK' _ _ _ _ ?_) (by decide)
  clear hK' K'
  refine runD_op (vex_tail' (j := i) rfl rfl rfl (by omega) (by omega) rfl rfl) rfl ?_
  refine runD_sp (sp_copy (z := z5) (cnt := l.length - i) (news := rws rc (l.drop i)) rfl rfl rfl rfl rfl rfl (seg_at rfl (by rw [List.length_drop]) (get_drop (by omega) rfl)) (by rw [show l.length + 1 - (i + 1) = l.length - i by omega]; exact (Nat.min_self _).symm) (rws_one rc_one _) (by rw [drop_len, ← ly1]; show (i + 1) * 5 + _ ≤ _; omega)) rfl rfl rfl ⟨_, _, rfl, rfl⟩ (fun _ _ h => by rw [h.2]; rfl) ?_
  rintro _ _ ⟨rfl, rfl⟩
  refine runD_end (z := false) fun K' hK' => hK' _ _ _ _ (hK _ _ _ ?_)
  clear hK' K' hK K
  refine vc_seq ?_
  refine vc_go (by kernel_rfl) fun K hK => hK _ _ _ ?_
  clear hK K
  refine vc_ret ⟨.inr rfl, ?_⟩
  refine res_of 10 _ _ (.inr ⟨cap, zrow (cap - (l.length + 1)) z5, zrow_plain rfl _, rfl, rfl⟩) (by decide) rfl rfl ⟨sbu (plainL_append (rcs_plain l) hsp) rfl, sbu (rc_plain r) rfl, sbu_eq (plainL_append (rcs_plain _) (zrow_plain rfl _)) rfl (ins_newQ hi), trivial⟩ (by simp [bdH, bdB, bdL_plain, plainL_append (rcs_plain l) hsp, plainL_append (rcs_plain _) (zrow_plain (z := z5) rfl _), rcb]) rfl (.inl (by simp))
theorem ins_in {l : List Rn} {r : Rn} {i : Nat} {sp : List Value} (hi : i < l.length) : ((rws rc l ++ sp).take ((i + 1) * z5.length) ++ rws rc (l.drop i) ++ (rws rc l ++ sp).drop ((i + 1) * z5.length + (rws rc (l.drop i)).length)).take (i * z5.length) ++ rc r ++ ((rws rc l ++ sp).take ((i + 1) * z5.length) ++ rws rc (l.drop i) ++ (rws rc l ++ sp).drop ((i + 1) * z5.length + (rws rc (l.drop i)).length)).drop (i * z5.length + (rc r).length) = rws rc (insQ l i r) ++ sp.drop 5 := by
  have h := ins_mid (P := rws rc (l.take i)) (Q := rws rc (l.drop i)) (R := rc r) (sp := sp) (a := i * 5) (b := i * 5 + 5 + (rws rc (l.drop i)).length) (take_len (by omega)) rfl rfl (by rw [List.length_append, drop_len]; omega)
  rw [← rws_take_drop l i] at h
  rw [show (i + 1) * z5.length = i * 5 + 5 from Nat.succ_mul i 5, show i * z5.length = i * 5 from rfl, h, rws_ins]


theorem p122d {l : List Rn} {r : Rn} {i c : Nat} {sp : List Value} (hl : l.length ≤ 1000) (hc : l.length ≤ c) (hsp : plainL sp = true) (hsl : sp.length = (c - l.length) * 5) (hi : i < l.length) (hroom : l.length + 1 ≤ c) : FC 122 [.slice (some ⟨0, 0, none⟩) l.length c, .int .i64 (i : Nat), .slice (some ⟨1, 0, none⟩) 1 1] 2 [(0, .cells (rws rc l ++ sp) 67 true), (1, .cells (rc r) 67 true)] (fun v u => (∃ c2 sp2, plainL sp2 = true ∧ v = .slice (some ⟨0, 0, none⟩) (l.length + 1) c2 ∧ u = [(0, .cells (rws rc (insQ l i r) ++ sp2) 67 true), (1, .cells (rc r) 67 true)]) ∨ (∃ c2 sp2, plainL sp2 = true ∧ v = .slice (some ⟨2, 0, none⟩) (l.length + 1) c2 ∧ u = [(0, .cells (rws rc l ++ sp) 67 true), (1, .cells (rc r) 67 true), (2, .cells (rws rc (insQ l i r) ++ sp2) 67 true)])) := by
  have hsp5 : plainL (sp.drop 5) = true := plainL_drop hsp 5
  have w1 : IntKind.i64.wrap ((l.length : Int) + ((1 : Nat) : Int)) = ((l.length + 1 : Nat) : Int) := by rw [wrapI (by omega) (by omega)]; omega
  have w2 : IntKind.i64.wrap ((i : Int) + ((1 : Nat) : Int)) = ((i + 1 : Nat) : Int) := by rw [wrapI (by omega) (by omega)]; omega
  have w3 : IntKind.i64.wrap (IntKind.i64.wrap ((l.length : Int) + ((1 : Nat) : Int)) - (i : Int)) = ((l.length + 1 - i : Nat) : Int) := by rw [w1, wrapI (by omega) (by omega)]; omega
  have hne0 : rws rc l ++ sp ≠ [] := by
    intro e
    have := congrArg List.length e
    rw [List.length_append, rws_len rc_len] at this
    simp at this
    omega
  refine fc_of [(0, .cells (rws rc l ++ sp) 67 true), (1, .cells (rc r) 67 true)] 2 Try.func122 rfl Try.ntmps122 (by kernel_rfl) (by simp) rfl (by simp [bdH, bdB, bdL_plain, plainL_append (rcs_plain l) hsp, rcb]) (hall_of rfl) ?_
  refine vc_seq ?_
  refine vc_go (by kernel_rfl) fun K hK => hK _ _ _ ?_
  clear hK K
  refine vc_seq ?_
  refine vc_reg (by kernel_rfl) fun K hK => ?_
  refine run_n (z := false) 2 (fun K' hK' => hK' _ _ _ ?_) (by decide)
  clear hK' K'
  refine run_op (vex_tail (j := i) rfl rfl rfl (by omega) rfl rfl) rfl ?_
  refine run_end (z := false) fun K' hK' => hK' _ _ _ (hK _ _ _ ?_)
  clear hK' K' hK K
  refine vc_seq ?_
  refine vc_go (by kernel_rfl) fun K hK => hK _ _ _ ?_
  clear hK K
  refine vc_seq ?_
  refine vc_seq ?_
  refine vc_go (by kernel_rfl) fun K hK => hK _ _ _ ?_
  clear hK K
  refine vc_cond (t := false) rfl (fun h => by cases h) (fun _ => ?_)
  refine vc_skip ?_
  refine vc_seq ?_
  refine vc_go (by kernel_rfl) fun K hK => hK _ _ _ ?_
  clear hK K
  refine vc_seq ?_
  refine vc_seq ?_
  refine vc_go (by kernel_rfl) fun K hK => hK _ _ _ ?_
  clear hK K
  refine vc_cond (t := false) (bb (by rw [beq_eq_false_iff_ne]; omega)) (fun h => by cases h) (fun _ => ?_)
  refine vc_skip ?_
  refine vc_seq ?_
  refine vc_seq ?_
  refine vc_go (by kernel_rfl) fun K hK => hK _ _ _ ?_
  clear hK K
  refine vc_cond (t := false) (bb (by rw [decide_eq_false_iff_not]; show ¬ IntKind.i64.wrap _ > _; rw [w1]; omega)) (fun h => by cases h) (fun _ => ?_)
  refine vc_skip ?_
  refine vc_seq ?_
  refine vc_reg (by kernel_rfl) fun K hK => ?_
  refine run_n (z := false) 4 (fun K' hK' => hK' _ _ _ ?_) (by decide)
  clear hK' K'
  refine run_op (vex_cut (j := l.length + 1) rfl rfl w1 (by omega) rfl rfl) rfl ?_
  refine run_end (z := false) fun K' hK' => hK' _ _ _ (hK _ _ _ ?_)
  clear hK' K' hK K
  refine vc_seq ?_
  refine vc_seq ?_
  refine vc_reg (by kernel_rfl) fun K hK => ?_
  refine run_n (z := false) 5 (fun K' hK' => hK' _ _ _ ?_) (by decide)
  clear hK' K'
  refine run_op (vex_tail' (j := i + 1) rfl rfl w2 (by omega) (by omega) rfl rfl) rfl ?_
  refine run_sp (sp_over2 rfl rfl rfl (by decide) rfl rfl hne0) rfl rfl rfl ⟨_, _, rfl, rfl⟩ ?_
  rintro _ _ ⟨rfl, rfl⟩
  refine run_end (z := false) fun K' hK' => hK' _ _ _ (hK _ _ _ ?_)
  clear hK' K' hK K
  refine vc_cond (t := true) rfl (fun _ => ?_) (fun h => by cases h)
  refine vc_seq ?_
  refine vc_regD [] (by kernel_rfl) (by kernel_rfl) fun K hK => ?_
  refine runD_n (z := false) 4 (fun K' hK' => hK' _ _ _ _ ?_) (by decide)
  clear hK' K'
  refine runD_op (vex_tail' (j := i + 1) rfl rfl w2 (by omega) (by omega) rfl rfl) rfl ?_
  refine runD_n (z := false) 2 (fun K' hK' => hK' _ _ _ _ ?_) (by decide)
  clear hK' K'
  refine runD_op (vex_tail' (j := i) rfl rfl rfl (by omega) (by omega) rfl rfl) rfl ?_
  refine runD_sp (sp_copy (z := z5) (cnt := l.length - i) (news := rws rc (l.drop i)) rfl rfl rfl rfl rfl rfl (seg_at rfl (by rw [List.length_drop]) (get_drop (by omega) rfl)) (by rw [show l.length + 1 - (i + 1) = l.length - i by omega, show l.length + 1 - i = (l.length - i) + 1 by omega]; exact (Nat.min_eq_right (by omega)).symm) (rws_one rc_one _) (by rw [drop_len, List.length_append, rws_len rc_len]; show (i + 1) * 5 + _ ≤ _; omega)) rfl rfl rfl ⟨_, _, rfl, rfl⟩ (fun _ _ h => by rw [h.2]; rfl) ?_
  rintro _ _ ⟨rfl, rfl⟩
  refine runD_end (z := false) fun K' hK' => hK' _ _ _ _ (hK _ _ _ ?_)
  clear hK' K' hK K
  have pv1 : plainL ((rws rc l ++ sp).take ((i + 1) * z5.length) ++ rws rc (l.drop i) ++ (rws rc l ++ sp).drop ((i + 1) * z5.length + (rws rc (l.drop i)).length)) = true := plainL_append (plainL_append (plainL_take (plainL_append (rcs_plain l) hsp) _) (rcs_plain _)) (plainL_drop (plainL_append (rcs_plain l) hsp) _)
  have lv1 : l.length * 5 + sp.length = ((rws rc l ++ sp).take ((i + 1) * z5.length) ++ rws rc (l.drop i) ++ (rws rc l ++ sp).drop ((i + 1) * z5.length + (rws rc (l.drop i)).length)).length := by
    rw [List.length_append, List.length_append, List.length_take, List.length_drop, drop_len, List.length_append, rws_len rc_len]
    show _ = min ((i + 1) * 5) _ + _ + (_ - ((i + 1) * 5 + _))
    omega
  refine refocusF [(0, .slice (some ⟨0, 0, none⟩) (l.length + 1) c), (1, .int .i64 (i : Nat)), (2, .slice (some ⟨1, 0, none⟩) 1 1), (6, .slice none 0 0), (7, .int .i64 (1 : Nat)), (8, .int .i64 (l.length : Int))] [(0, .cells ((rws rc l ++ sp).take ((i + 1) * z5.length) ++ rws rc (l.drop i) ++ (rws rc l ++ sp).drop ((i + 1) * z5.length + (rws rc (l.drop i)).length)) 67 true), (1, .cells (rc r) 67 true)] 2 (by decide) ⟨rfl, rfl, rfl, rfl, rfl, rfl, trivial⟩ ⟨sb rfl, sb rfl, trivial⟩ rfl (bdH_c (by decide) (pv1) (bdH_c (by decide) (rc_plain r) rfl)) ?_
  refine vc_seq ?_
  refine vc_reg (by kernel_rfl) fun K hK => ?_
  refine run_n (z := false) 2 (fun K' hK' => hK' _ _ _ ?_) (by decide)
  clear hK' K'
  refine run_op (vex_tail' (j := i) rfl rfl rfl (by omega) (by omega) rfl rfl) rfl ?_
  refine run_n (z := false) 1 (fun K' hK' => hK' _ _ _ ?_) (by decide)
  clear hK' K'
  refine run_sp (sp_copy (z := z5) (cnt := 1) (news := rc r) rfl rfl rfl rfl rfl rfl (.cells (own := true) (t := 67) (l := rc r) rfl rfl get_zero) (by rw [show l.length + 1 - i = (l.length - i) + 1 by omega]; exact (Nat.min_eq_left (by omega)).symm) rfl (by rw [← lv1]; show i * 5 + 5 ≤ _; omega)) rfl rfl rfl ⟨_, _, rfl, rfl⟩ ?_
  rintro _ _ ⟨rfl, rfl⟩
  refine run_end (z := false) fun K' hK' => hK' _ _ _ (hK _ _ _ ?_)
  clear hK' K' hK K
  refine vc_seq ?_
  refine vc_go (by kernel_rfl) fun K hK => hK _ _ _ ?_
  clear hK K
  refine vc_ret ⟨.inr rfl, ?_⟩
  refine res_of 2 _ _ (.inl ⟨c, sp.drop 5, hsp5, rfl, rfl⟩) (by decide) rfl rfl ⟨sbu_eq (plainL_append (rcs_plain _) hsp5) rfl (ins_in hi), sbu (rc_plain r) rfl, trivial⟩ (by simp [bdH, bdB, bdL_plain, plainL_append (rcs_plain _) hsp5, rcb]) rfl (.inr (Nat.le_refl 2))
theorem p122 {l : List Rn} {r : Rn} {i c : Nat} {sp : List Value} (hl : l.length ≤ 1000) (hc : l.length ≤ c) (hsp : plainL sp = true) (hsl : sp.length = (c - l.length) * 5) (hi : i ≤ l.length) : FC 122 [.slice (some ⟨0, 0, none⟩) l.length c, .int .i64 (i : Nat), .slice (some ⟨1, 0, none⟩) 1 1] 2 [(0, .cells (rws rc l ++ sp) 67 true), (1, .cells (rc r) 67 true)] (fun v u => (∃ c2 sp2, plainL sp2 = true ∧ v = .slice (some ⟨0, 0, none⟩) (l.length + 1) c2 ∧ u = [(0, .cells (rws rc (insQ l i r) ++ sp2) 67 true), (1, .cells (rc r) 67 true)]) ∨ (∃ c2 sp2, plainL sp2 = true ∧ v = .slice (some ⟨2, 0, none⟩) (l.length + 1) c2 ∧ u = [(0, .cells (rws rc l ++ sp) 67 true), (1, .cells (rc r) 67 true), (2, .cells (rws rc (insQ l i r) ++ sp2) 67 true)])) := by
  rcases Nat.lt_or_ge c (l.length + 1) with h | h
  · rcases Nat.lt_or_ge i l.length with g | g
    · exact p122c hl hc hsp hsl g h
    · exact p122b hl hc hsp hsl (by omega) h
  · rcases Nat.lt_or_ge i l.length with g | g
    · exact p122d hl hc hsp hsl g h
    · exact p122a hl hc hsp hsl (by omega) h


def delQ (l : List Rn) (i : Nat) : List Rn := l.take i ++ l.drop (i + 1)
theorem delQ_len {l : List Rn} {i : Nat} (hi : i < l.length) : (delQ l i).length = l.length - 1 := by rw [delQ, List.length_append, List.length_take, List.length_drop]; omega
theorem del_one {l : List Rn} {i : Nat} {sp : List Value} (hi : i < l.length) : (rws rc l ++ sp).take (0 + i * z5.length) ++ rws rc (l.drop (i + 1)) ++ (rws rc l ++ sp).drop (0 + i * z5.length + (rws rc (l.drop (i + 1))).length) = rws rc (delQ l i) ++ (rws rc l ++ sp).drop (0 + i * z5.length + (rws rc (l.drop (i + 1))).length) := by
  have e : (rws rc l ++ sp).take (0 + i * z5.length) = rws rc (l.take i) := by
    rw [rws_take_drop l i, List.append_assoc, Nat.zero_add]
    exact List.take_left' (take_len (by omega))
  rw [e, delQ, rws_append]
theorem del_two {l : List Rn} {i n : Nat} {sp X : List Value} (hi : i < l.length) (hn : n = l.length - 1) : (rws rc (delQ l i) ++ X).take (n * z5.length) ++ sp ++ (rws rc (delQ l i) ++ X).drop (n * z5.length + 5) = rws rc (delQ l i) ++ (sp ++ X.drop 5) := by
  have h : (rws rc (delQ l i)).length = n * z5.length := by rw [rws_len rc_len, delQ_len hi, hn]; rfl
  rw [← h, List.take_left, ← List.drop_drop, List.drop_left, List.append_assoc]
section
variable {ev : Operand → Value} {h : Nat → Option Blk}
/-- s[lo:hi:mx]: what comes of it nobody reads. -/
theorem vex_any3 {t e : Nat} {x lo hi mx : Operand} {m len cap a b d : Nat} {k1 k2 k3 : IntKind} {i1 i2 i3 : Int} {ag : Bool} {z : List Value} (hx : ev x = .slice (some ⟨m, 0, none⟩) len cap) (h1 : ev lo = .int k1 i1) (h2 : ev hi = .int k2 i2) (h3 : ev mx = .int k3 i3)
    (e1 : i1 = a) (e2 : i2 = b) (e3 : i3 = d) (hab : a ≤ b) (hbd : b ≤ d) (hd : d ≤ cap) (ht : sl t = some e) (hz : ty e = some (ag, z)) :
    vex ev h (.slice t x (some lo) (some hi) (some mx)) = some (.val (.slice (if d = a then some ⟨m, 0, none⟩ else some ⟨m, a * z.length, none⟩) (b - a) (d - a))) := by
  subst e1 e2 e3
  simp only [vex, hx, ht, hz, Option.map_some, h1, h2, h3, sbounds, Option.bind_some]
  rw [if_pos ⟨by omega, by omega⟩]
  simp only [Option.bind_some, Int.toNat_natCast]
  rw [if_pos ⟨by omega, by omega⟩]
  simp only [Option.bind_some, Int.toNat_natCast]
  rw [if_pos ⟨by omega, by omega⟩]
  simp only [Option.bind_some, Option.map_some, Int.toNat_natCast, Nat.zero_add]
theorem vex_rest {t e : Nat} {x lo hi : Operand} {m len cap a b : Nat} {k1 k2 : IntKind} {i1 i2 : Int} {ag : Bool} {z : List Value} (hx : ev x = .slice (some ⟨m, 0, none⟩) len cap) (h1 : ev lo = .int k1 i1) (h2 : ev hi = .int k2 i2)
    (e1 : i1 = a) (e2 : i2 = b) (hab : a ≤ b) (hb : b ≤ cap) (hne : cap ≠ a) (ht : sl t = some e) (hz : ty e = some (ag, z)) :
    vex ev h (.slice t x (some lo) (some hi) none) = some (.val (.slice (some ⟨m, a * z.length, none⟩) (b - a) (cap - a))) := by
  subst e1 e2
  simp only [vex, hx, ht, hz, Option.map_some, Option.map_none, h1, h2, sbounds, Option.bind_some]
  rw [if_pos ⟨by omega, by omega⟩]
  simp only [Option.bind_some, Int.toNat_natCast]
  rw [if_pos ⟨by omega, by omega⟩]
  simp only [Option.bind_some, Option.map_some, Int.toNat_natCast, Nat.zero_add]
  rw [if_neg hne]
end
theorem seg_tail {h : Nat → Option Blk} {l : List Rn} {j c : Nat} {sp : List Value} (hm : h 0 = some (.cells (rws rc l ++ sp) 67 true)) (hj : j ≤ l.length) (hc : l.length ≤ c) : Seg h 5 (.slice (if c = j then some ⟨0, 0, none⟩ else some ⟨0, j * 5, none⟩) (l.length - j) (c - j)) (l.length - j) (c - j) (rws rc (l.drop j)) [0] := by
  split
  · have : l.drop j = [] := List.drop_eq_nil_of_le (by omega)
    rw [this]
    exact .cells hm (by rw [rws, List.length_nil]; omega) (fun i v h => by simp [rws] at h)
  · exact seg_at hm (by rw [List.length_drop]) (get_drop hj rfl)


theorem p101 {l : List Rn} {i c : Nat} {sp : List Value} (hl : l.length ≤ 1000) (hc : l.length ≤ c) (hsp : plainL sp = true) (hi : i < l.length) : FC 101 [.slice (some ⟨0, 0, none⟩) l.length c, .int .i64 (i : Nat), .int .i64 ((i + 1 : Nat) : Int)] 1 [(0, .cells (rws rc l ++ sp) 67 true)] (fun v u => ∃ sp2, plainL sp2 = true ∧ v = .slice (some ⟨0, 0, none⟩) (l.length - 1) c ∧ u = [(0, .cells (rws rc (delQ l i) ++ sp2) 67 true)]) := by
  refine fc_of [(0, .cells (rws rc l ++ sp) 67 true)] 1 Try.func101 rfl Try.ntmps101 (by kernel_rfl) (by simp) rfl (bdH_c (by decide) (plainL_append (rcs_plain l) hsp) rfl) (hall_of rfl) ?_
  refine vc_seq ?_
  refine vc_go (by kernel_rfl) fun K hK => hK _ _ _ ?_
  clear hK K
  refine vc_seq ?_
  refine vc_reg (by kernel_rfl) fun K hK => ?_
  refine run_n (z := false) 5 (fun K' hK' => hK' _ _ _ ?_) (by decide)
  clear hK' K'
  refine run_op (vex_any3 (a := i) (b := i + 1) (d := l.length) rfl rfl rfl rfl rfl rfl rfl (by omega) (by omega) hc rfl rfl) rfl ?_
  refine run_end (z := false) fun K' hK' => hK' _ _ _ (hK _ _ _ ?_)
  clear hK' K' hK K
  refine vc_seq ?_
  refine vc_seq ?_
  refine vc_go (by kernel_rfl) fun K hK => hK _ _ _ ?_
  clear hK K
  refine vc_cond (t := false) (bb (by rw [beq_eq_false_iff_ne]; omega)) (fun h => by cases h) (fun _ => ?_)
  refine vc_skip ?_
  refine vc_seq ?_
  refine vc_go (by kernel_rfl) fun K hK => hK _ _ _ ?_
  clear hK K
  refine vc_seq ?_
  refine vc_regD [] (by kernel_rfl) (by kernel_rfl) fun K hK => ?_
  refine runD_n (z := false) 2 (fun K' hK' => hK' _ _ _ _ ?_) (by decide)
  clear hK' K'
  refine runD_op (vex_cut (j := i) rfl rfl rfl (by omega) rfl rfl) rfl ?_
  refine runD_n (z := false) 2 (fun K' hK' => hK' _ _ _ _ ?_) (by decide)
  clear hK' K'
  refine runD_op (vex_tail (j := i + 1) rfl rfl rfl (by omega) rfl rfl) rfl ?_
  refine runD_sp (sp_append_room (z := z5) rfl rfl rfl el67 rfl rfl (seg_tail rfl (by omega) hc) (rws_one rc_one _) (by omega) (by rw [drop_len, List.length_append, rws_len rc_len]; show 0 + i * 5 + _ ≤ _; omega)) rfl rfl rfl ⟨_, _, rfl, rfl⟩ (fun _ _ h => by rw [h.2]; rfl) ?_
  rw [show i + (l.length - (i + 1)) = l.length - 1 by omega]
  rintro _ _ ⟨rfl, rfl⟩
  refine runD_end (z := false) fun K' hK' => hK' _ _ _ _ (hK _ _ _ ?_)
  clear hK' K' hK K
  have px : plainL ((rws rc l ++ sp).drop (0 + i * z5.length + (rws rc (l.drop (i + 1))).length)) = true := plainL_drop (plainL_append (rcs_plain l) hsp) _
  have ld1 : l.length * 5 + sp.length = (rws rc (delQ l i) ++ ((rws rc l ++ sp).drop (0 + i * z5.length + (rws rc (l.drop (i + 1))).length))).length := by
    rw [List.length_append, rws_len rc_len, delQ_len hi, List.length_drop, drop_len, List.length_append, rws_len rc_len]
    show _ = _ + (_ - (0 + i * 5 + _))
    omega
  refine refocusF [(0, .slice (some ⟨0, 0, none⟩) (l.length - 1) c), (7, .int .i64 (l.length : Int))] [(0, .cells (rws rc (delQ l i) ++ ((rws rc l ++ sp).drop (0 + i * z5.length + (rws rc (l.drop (i + 1))).length))) 67 true)] 1 (by decide) ⟨rfl, rfl, trivial⟩ ⟨sbe rfl (del_one hi), trivial⟩ rfl (bdH_c (by decide) (plainL_append (rcs_plain _) px) rfl) ?_
  refine vc_seq ?_
  refine vc_reg (by kernel_rfl) fun K hK => ?_
  refine run_n (z := false) 4 (fun K' hK' => hK' _ _ _ ?_) (by decide)
  clear hK' K'
  refine run_op (vex_rest (a := l.length - 1) (b := l.length) rfl rfl rfl rfl rfl (by omega) hc (by omega) rfl rfl) rfl ?_
  refine run_sp (sp_clear (z := z5) rfl rfl el67 rfl rfl rfl (by omega) (by rw [← ld1]; show (l.length - 1) * 5 + _ * 5 ≤ _; omega)) rfl rfl rfl ⟨_, _, rfl, rfl⟩ ?_
  rw [show l.length - (l.length - 1) = 1 by omega]
  rintro _ _ ⟨rfl, rfl⟩
  refine run_end (z := false) fun K' hK' => hK' _ _ _ (hK _ _ _ ?_)
  clear hK' K' hK K
  refine vc_seq ?_
  refine vc_go (by kernel_rfl) fun K hK => hK _ _ _ ?_
  clear hK K
  refine vc_ret ⟨.inr rfl, ?_⟩
  refine res_of 1 _ _ ⟨z5 ++ List.drop 5 ((rws rc l ++ sp).drop (0 + i * z5.length + (rws rc (l.drop (i + 1))).length)), plainL_append rfl (plainL_drop px 5), rfl, rfl⟩ (by decide) rfl rfl ⟨sbu_eq (plainL_append (rcs_plain _) (plainL_append rfl (plainL_drop px 5))) rfl (del_two (sp := z5) hi rfl), trivial⟩ (bdH_c (by decide) (plainL_append (rcs_plain _) (plainL_append rfl (plainL_drop px 5))) rfl) rfl (.inr (Nat.le_refl 1))
end Go.Proofs.Ytdfkcijholopoaa.Vm
namespace Go.Proofs.Ytdfkcijholopoaa.Vm
open Go Go.RowKit
set_option maxRecDepth 10000
set_option linter.unusedSimpArgs false
set_option linter.unusedVariables false


/-- How fractions stand to one another, of whatever ones. -/
def fcmp (x y : Nat × Nat) : Int := if (rt x.1 x.2 && rt y.1 y.2) = true then cmpW (x.1 * y.2) (y.1 * x.2) else 0
theorem p42t (x y : Nat × Nat) : Pure 42 [fr x.1 x.2, fr y.1 y.2] (.int .i64 (fcmp x y)) := by
  cases h : rt x.1 x.2 && rt y.1 y.2
  · have := p42n h
    rw [fcmp, if_neg (by rw [h]; simp)]
    exact this
  · rw [fcmp, if_pos h]
    rw [Bool.and_eq_true] at h
    exact p42y h.1 h.2
def mx2 (x y : Nat × Nat) : Nat × Nat := if fcmp y x > 0 then y else x
theorem mx2_yes {x y : Nat × Nat} (h : decide (fcmp y x > 0) = true) : mx2 x y = y := if_pos (of_decide_eq_true h)
theorem mx2_no {x y : Nat × Nat} (h : decide (fcmp y x > 0) = false) : mx2 x y = x := if_neg (of_decide_eq_false h)
theorem two_plain (x y : Nat × Nat) : plainL (frc x.1 x.2 ++ frc y.1 y.2) = true := rfl


theorem p123 (x y : Nat × Nat) : RO 123 [.slice (some ⟨0, 0, none⟩) 2 2, .func (.func 42) #[] #[]] [(0, frc x.1 x.2 ++ frc y.1 y.2)] (fr (mx2 x y).1 (mx2 x y).2) := by
  refine ro_of _ 1 Try.func123 rfl Try.ntmps123 (by kernel_rfl) (by simp) rfl rfl (by simp) (by simp [two_plain]) ?_
  refine vc_seq ?_
  refine vc_go (by kernel_rfl) fun K hK => hK _ _ _ ?_
  clear hK K
  refine vc_seq ?_
  refine vc_seq ?_
  refine vc_go (by kernel_rfl) fun K hK => hK _ _ _ ?_
  clear hK K
  refine vc_cond (t := false) rfl (fun h => by cases h) (fun _ => ?_)
  refine vc_skip ?_
  refine vc_seq ?_
  refine vc_go (by kernel_rfl) fun K hK => hK _ _ _ ?_
  clear hK K
  refine vc_seq ?_
  refine vc_seq ?_
  refine vc_go (by kernel_rfl) fun K hK => hK _ _ _ ?_
  clear hK K
  refine vc_block ?_
  refine vc_rounds 2 ?_
  refine vc_seq ?_
  refine vc_seq ?_
  refine vc_go (by kernel_rfl) fun K hK => hK _ _ _ ?_
  clear hK K
  refine vc_cond (t := true) rfl (fun _ => ?_) (fun h => by cases h)
  refine vc_skip ?_
  refine vc_seq ?_
  refine vc_block ?_
  refine vc_seq ?_
  refine vc_regD [] (by kernel_rfl) (by kernel_rfl) fun K hK => ?_
  refine runD_n (z := false) 6 (fun K' hK' => hK' _ _ _ _ ?_) (by decide)
  clear hK' K'
  refine runD_call (p42t y x) rfl rfl rfl rfl ?_
  refine runD_end (z := false) fun K' hK' => hK' _ _ _ _ (hK _ _ _ ?_)
  clear hK' K' hK K
  refine vc_cond rfl (fun g => ?_) (fun g => ?_)
  · -- cond 2 t27 true
    refine vc_go (by kernel_rfl) fun K hK => hK _ _ _ ?_
    clear hK K
    refine vc_go (by kernel_rfl) fun K hK => hK _ _ _ ?_
    clear hK K
    refine vc_seq ?_
    refine vc_seq ?_
    refine vc_go (by kernel_rfl) fun K hK => hK _ _ _ ?_
    clear hK K
    refine vc_cond (t := false) rfl (fun h => by cases h) (fun _ => ?_)
    refine vc_exit ?_
    refine vc_seq ?_
    refine vc_go (by kernel_rfl) fun K hK => hK _ _ _ ?_
    clear hK K
    refine vc_ret ⟨.inr rfl, ?_⟩
    rw [mx2_yes g]
    rfl
  · -- cond 2 t27 false
    refine vc_skip ?_
    refine vc_go (by kernel_rfl) fun K hK => hK _ _ _ ?_
    clear hK K
    refine vc_seq ?_
    refine vc_seq ?_
    refine vc_go (by kernel_rfl) fun K hK => hK _ _ _ ?_
    clear hK K
    refine vc_cond (t := false) rfl (fun h => by cases h) (fun _ => ?_)
    refine vc_exit ?_
    refine vc_seq ?_
    refine vc_go (by kernel_rfl) fun K hK => hK _ _ _ ?_
    clear hK K
    refine vc_ret ⟨.inr rfl, ?_⟩
    rw [mx2_no g]
    rfl

theorem p98 (x y : Nat × Nat) : RO 98 [.slice (some ⟨0, 0, none⟩) 2 2] [(0, frc x.1 x.2 ++ frc y.1 y.2)] (fr (mx2 x y).1 (mx2 x y).2) := by
  have h123 := p123 x y
  refine ro_of _ 1 Try.func98 rfl Try.ntmps98 (by kernel_rfl) (by simp) rfl rfl (by simp) (by simp [two_plain]) ?_
  refine vc_seq ?_
  refine vc_go (by kernel_rfl) fun K hK => hK _ _ _ ?_
  clear hK K
  refine vc_seq ?_
  refine vc_reg (by kernel_rfl) fun K hK => ?_
  refine run_n (z := false) 1 (fun K' hK' => hK' _ _ _ ?_) (by decide)
  clear hK' K'
  refine run_ro (fun _ => (0, 0)) (h123) ?_ rfl rfl rfl rfl ?_
  · intro x hx
    simp only [List.mem_singleton] at hx
    subst hx
    exact ⟨_, _, _, rfl, fun i v hv => by rw [Nat.zero_add]; exact hv⟩
  refine run_end (z := false) fun K' hK' => hK' _ _ _ (hK _ _ _ ?_)
  clear hK' K' hK K
  exact vc_ret ⟨.inr rfl, rfl⟩

def SLK : Nat := 268435456
theorem sc_zero (m d : Nat) : sc 0 m d true = 0 := by simp [sc]
theorem rt_mk {n w : Nat} (hw : wt w = true) (hn : n < 2 ^ 100) : rt n w = true := by
  have := wt_w hw
  rw [rt, decide_eq_true_eq]; omega
theorem sc_mono {a b m d : Nat} (h : a ≤ b) : sc a m d true ≤ sc b m d true := by
  rcases Nat.eq_zero_or_pos d with rfl | hd
  · have h1 : a * m ≤ b * m := Nat.mul_le_mul_right m h
    simp only [sc, Nat.div_zero, Nat.mod_zero, true_and, Nat.zero_add]
    split <;> split <;> omega
  have h1 : a * m ≤ b * m := Nat.mul_le_mul_right m h
  have e : ∀ x, sc x m d true = (x * m + (d - 1)) / d := by
    intro x
    have h2 := Nat.div_add_mod (x * m) d
    have h3 := Nat.mod_lt (x * m) hd
    unfold sc
    generalize x * m / d = q at *
    generalize x * m % d = r at *
    symm
    split
    · rename_i hr
      rw [Nat.div_eq_iff hd]
      have e2 : d * (q + 1) = d * q + d := by rw [Nat.mul_add, Nat.mul_one]
      rw [Nat.mul_comm d q] at h2
      have e3 : (q + 1) * d = q * d + d := by rw [Nat.add_mul, Nat.one_mul]
      omega
    · rename_i hr
      have hr0 : r = 0 := by
        rcases Nat.eq_zero_or_pos r with h | h
        · exact h
        · exact absurd ⟨rfl, h⟩ hr
      rw [Nat.div_eq_iff hd, Nat.add_zero]
      rw [Nat.mul_comm d q] at h2
      omega
  rw [e, e]
  exact Nat.div_le_div_right (by omega)
/-- The time far below the top, and the least that may be had. -/
def farN (a v w : Nat) : Nat := sc (a - SLK * v) w v true
def lowN (a v w k : Nat) : Nat := max (sc a w v true - k) (farN a v w)
def joinN (a v w k n : Nat) : Nat := min (max (lowN a v w k) n) (sc a w v true)
theorem far_le (a v w : Nat) : farN a v w ≤ sc a w v true := sc_mono (Nat.sub_le _ _)
theorem p67f {a v w : Nat} (ha : rt a v = true) (hw : wt w = true) (h : sc a w v true < 2 ^ 100) : Pure 67 [fr 0 w, fr a v, u64 SLK] (.tuple #[fr (farN a v w) w, .int .i64 0]) := by
  have h0 : rt 0 w = true := rt_mk hw (by decide)
  cases hb : bh 0 w a v SLK
  · have e : farN a v w = 0 := by
      have h1 : ¬ 0 * v < (a - SLK * v) * w := by simpa [bh] using hb
      rw [Nat.zero_mul] at h1
      have hw1 := wt_w hw
      have h2 : a - SLK * v = 0 := by
        rcases Nat.eq_zero_or_pos (a - SLK * v) with h | h
        · exact h
        · exact absurd (Nat.mul_pos h (by omega)) h1
      rw [farN, h2, sc_zero]
    rw [e]
    exact p67s h0 ha (by decide) hb
  · exact p67y h0 ha (by decide) hb (Nat.lt_of_le_of_lt (far_le a v w) h)
theorem fcmp_w {x y w : Nat} (hx : rt x w = true) (hy : rt y w = true) : fcmp (x, w) (y, w) = cmpW (x * w) (y * w) := by rw [fcmp, if_pos (by simp only; rw [hx, hy]; rfl)]
theorem cmpW_gtm {a b w : Nat} (hw : 0 < w) : cmpW (a * w) (b * w) > 0 ↔ b < a := by
  have h1 : a * w < b * w ↔ a < b := Nat.mul_lt_mul_right hw
  have h2 : a * w = b * w ↔ a = b := Nat.mul_left_inj (by omega)
  unfold cmpW
  simp only [h1, h2]
  split
  · simp; omega
  · split
    · simp; omega
    · simp; omega
theorem mx2_w {x y w : Nat} (hx : rt x w = true) (hy : rt y w = true) : mx2 (x, w) (y, w) = (max x y, w) := by
  have hw := (rt_w hx).1
  unfold mx2
  rw [fcmp_w hy hx]
  split
  · rename_i h
    rw [cmpW_gtm hw] at h
    rw [Nat.max_eq_right (by omega)]
  · rename_i h
    rw [cmpW_gtm hw] at h
    rw [Nat.max_eq_left (by omega)]
theorem boost_raw {b : Nat} {e : Int} (hb : b ≤ 10000000) (he : inI e 8 = true) : IntKind.u64.wrap ((b : Int) * IntKind.u64.wrap e) = ((b * e.toNat : Nat) : Int) := by
  have he := of_decide_eq_true he
  have h1 : (e.toNat : Int) = e := Int.toNat_of_nonneg (by omega)
  have h2 : b * e.toNat ≤ 10000000 * 8 := Nat.mul_le_mul hb (by omega)
  rw [wrap64 e, Int.emod_eq_of_lt (by omega) (by omega), wrap64, ← h1, ← Int.natCast_mul, Int.emod_eq_of_lt (by omega) (by omega)]
  simp
theorem boost_lt {b : Nat} {e : Int} (hb : b ≤ 10000000) (he : inI e 8 = true) : b * e.toNat < 2 ^ 64 := by
  have he := of_decide_eq_true he
  have h2 : b * e.toNat ≤ 10000000 * 8 := Nat.mul_le_mul hb (by omega)
  omega


theorem p97y {a v b : Nat} {r : Rn} (ha : rt a v = true) (hr : okR r = true) (hb : b ≤ 10000000) (h : sc a r.w v true < 2 ^ 100) : Pure 97 [fr a v, rv r, u64 b] (.tuple #[fr (lowN a v r.w (b * r.each.toNat)) r.w, fr (sc a r.w v true) r.w, .int .i64 0]) := by
  have hr2 := hr
  simp only [okR, Bool.and_eq_true] at hr2
  have hwr : wt r.w = true := rt_wt hr2.2.2
  have h61 := p61y ha hwr h
  have hA : rt (sc a r.w v true) r.w = true := rt_mk hwr h
  have h62 := p62y (k := b * r.each.toNat) hA (boost_lt hb hr2.2.1)
  have h67 := p67f ha hwr h
  have hF : rt (farN a v r.w) r.w = true := rt_mk hwr (Nat.lt_of_le_of_lt (far_le a v r.w) h)
  have h98 := p98 (sc a r.w v true - b * r.each.toNat, r.w) (farN a v r.w, r.w)
  rw [mx2_w (rt_less _ hA) hF] at h98
  refine pure_of Try.func97 rfl Try.ntmps97 (by kernel_rfl) rfl (by simp) rfl ?_
  refine vc_seq ?_
  refine vc_go (by kernel_rfl) fun K hK => hK _ _ _ ?_
  clear hK K
  refine vc_seq ?_
  refine vc_reg (by kernel_rfl) fun K hK => ?_
  refine run_n (z := false) 4 (fun K' hK' => hK' _ _ _ ?_) (by decide)
  clear hK' K'
  refine run_call (h61) rfl rfl rfl rfl ?_
  refine run_end (z := false) fun K' hK' => hK' _ _ _ (hK _ _ _ ?_)
  clear hK' K' hK K
  refine vc_seq ?_
  refine vc_seq ?_
  refine vc_go (by kernel_rfl) fun K hK => hK _ _ _ ?_
  clear hK K
  refine vc_cond (t := false) rfl (fun h => by cases h) (fun _ => ?_)
  refine vc_skip ?_
  refine vc_seq ?_
  refine vc_reg (by kernel_rfl) fun K hK => ?_
  refine run_n (z := false) 6 (fun K' hK' => hK' _ _ _ ?_) (by decide)
  clear hK' K'
  refine run_call h62 rfl (congrArg (fun x => [fr (sc a r.w v true) r.w, .int .u64 x]) (boost_raw hb hr2.2.1)) rfl rfl ?_
  refine run_end (z := false) fun K' hK' => hK' _ _ _ (hK _ _ _ ?_)
  clear hK' K' hK K
  refine vc_seq ?_
  refine vc_seq ?_
  refine vc_go (by kernel_rfl) fun K hK => hK _ _ _ ?_
  clear hK K
  refine vc_cond (t := false) rfl (fun h => by cases h) (fun _ => ?_)
  refine vc_skip ?_
  refine vc_seq ?_
  refine vc_reg (by kernel_rfl) fun K hK => ?_
  refine run_n (z := false) 5 (fun K' hK' => hK' _ _ _ ?_) (by decide)
  clear hK' K'
  refine run_call (h67) rfl rfl rfl rfl ?_
  refine run_end (z := false) fun K' hK' => hK' _ _ _ (hK _ _ _ ?_)
  clear hK' K' hK K
  refine vc_seq ?_
  refine vc_seq ?_
  refine vc_go (by kernel_rfl) fun K hK => hK _ _ _ ?_
  clear hK K
  refine vc_cond (t := false) rfl (fun h => by cases h) (fun _ => ?_)
  refine vc_skip ?_
  refine vc_seq ?_
  refine vc_regD [(2, 4), (3, 4), (4, 5)] (by kernel_rfl) (by kernel_rfl) fun K hK => ?_
  refine runD_n (z := false) 3 (fun K' hK' => hK' _ _ _ _ ?_) (by decide)
  clear hK' K'
  refine runD_ro (fun _ => (36, 0)) (h98) ?_ rfl rfl rfl rfl rfl ?_
  · intro x hx
    simp only [List.mem_singleton] at hx
    subst hx
    exact ⟨_, _, _, rfl, fun i v hv => by rw [Nat.zero_add]; exact hv⟩
  refine runD_end (z := false) fun K' hK' => hK' _ _ _ _ (hK _ _ _ ?_)
  clear hK' K' hK K
  exact vc_ret ⟨.inr rfl, rfl⟩

theorem p97r {a v b : Nat} {r : Rn} (ha : rt a v = true) (hr : okR r = true) (hb : b ≤ 10000000) (h : ¬ sc a r.w v true < 2 ^ 100) : Pure 97 [fr a v, rv r, u64 b] (.tuple #[fr 0 0, fr 0 0, .int .i64 131]) := by
  have hr2 := hr
  simp only [okR, Bool.and_eq_true] at hr2
  have hwr : wt r.w = true := rt_wt hr2.2.2
  have h61 := p61r ha hwr h
  refine pure_of Try.func97 rfl Try.ntmps97 (by kernel_rfl) rfl (by simp) rfl ?_
  refine vc_seq ?_
  refine vc_go (by kernel_rfl) fun K hK => hK _ _ _ ?_
  clear hK K
  refine vc_seq ?_
  refine vc_reg (by kernel_rfl) fun K hK => ?_
  refine run_n (z := false) 4 (fun K' hK' => hK' _ _ _ ?_) (by decide)
  clear hK' K'
  refine run_call (h61) rfl rfl rfl rfl ?_
  refine run_end (z := false) fun K' hK' => hK' _ _ _ (hK _ _ _ ?_)
  clear hK' K' hK K
  refine vc_seq ?_
  refine vc_seq ?_
  refine vc_go (by kernel_rfl) fun K hK => hK _ _ _ ?_
  clear hK K
  refine vc_cond (t := true) rfl (fun _ => ?_) (fun h => by cases h)
  refine vc_seq ?_
  refine vc_goD [(1, 3)] (by kernel_rfl) (by kernel_rfl) fun K hK => hK _ _ _ _ ?_
  clear hK K
  exact vc_ret ⟨.inr rfl, rfl⟩

theorem joinN_a {a v w k n : Nat} (hw : wt w = true) (g : decide (cmpW (max (lowN a v w k) n * w) (sc a w v true * w) > 0) = true) : joinN a v w k n = sc a w v true := by
  rw [decide_eq_true_eq, cmpW_gtm (wt_w hw).1] at g
  exact Nat.min_eq_right (by omega)
theorem joinN_b {a v w k n : Nat} (hw : wt w = true) (g : decide (cmpW (max (lowN a v w k) n * w) (sc a w v true * w) > 0) = false) : joinN a v w k n = max (lowN a v w k) n := by
  rw [decide_eq_false_iff_not, cmpW_gtm (wt_w hw).1] at g
  exact Nat.min_eq_left (by omega)


theorem p96n {a v b : Nat} {r : Rn} : RC 96 [fr a v, .bool false, .pointer (some ⟨0, 0, none⟩), .pointer (some ⟨1, 0, none⟩)] [(0, rc r), (1, [u64 b])] (.tuple #[fr r.n r.w, .int .i64 0]) := by
  refine rc_of _ 2 Try.func96 rfl Try.ntmps96 (by kernel_rfl) (by simp) rfl rfl (by simp) (by intro x hx; simp only [List.mem_cons, List.not_mem_nil, or_false] at hx; rcases hx with rfl | rfl <;> rfl) ?_
  refine vc_seq ?_
  refine vc_go (by kernel_rfl) fun K hK => hK _ _ _ ?_
  clear hK K
  refine vc_seq ?_
  refine vc_seq ?_
  refine vc_go (by kernel_rfl) fun K hK => hK _ _ _ ?_
  clear hK K
  refine vc_cond (t := true) rfl (fun _ => ?_) (fun h => by cases h)
  refine vc_seq ?_
  refine vc_go (by kernel_rfl) fun K hK => hK _ _ _ ?_
  clear hK K
  exact vc_ret ⟨.inr rfl, rfl⟩

theorem p96r {a v b : Nat} {r : Rn} (ha : rt a v = true) (hr : okR r = true) (hb : b ≤ 10000000) (h : ¬ sc a r.w v true < 2 ^ 100) : RC 96 [fr a v, .bool true, .pointer (some ⟨0, 0, none⟩), .pointer (some ⟨1, 0, none⟩)] [(0, rc r), (1, [u64 b])] (.tuple #[fr 0 0, .int .i64 131]) := by
  have h97 := p97r ha hr hb h
  have h98 := p98 (0, 0) (r.n, r.w)
  have e : mx2 (0, 0) (r.n, r.w) = (0, 0) := by unfold mx2 fcmp; simp [rt]
  rw [e] at h98
  have h42 := p42t (0, 0) (0, 0)
  have e2 : fcmp (0, 0) (0, 0) = 0 := by unfold fcmp; simp [rt]
  rw [e2] at h42
  refine rc_of _ 2 Try.func96 rfl Try.ntmps96 (by kernel_rfl) (by simp) rfl rfl (by simp) (by intro x hx; simp only [List.mem_cons, List.not_mem_nil, or_false] at hx; rcases hx with rfl | rfl <;> rfl) ?_
  refine vc_seq ?_
  refine vc_go (by kernel_rfl) fun K hK => hK _ _ _ ?_
  clear hK K
  refine vc_seq ?_
  refine vc_seq ?_
  refine vc_go (by kernel_rfl) fun K hK => hK _ _ _ ?_
  clear hK K
  refine vc_cond (t := false) rfl (fun h => by cases h) (fun _ => ?_)
  refine vc_skip ?_
  refine vc_seq ?_
  refine vc_reg (by kernel_rfl) fun K hK => ?_
  refine run_n (z := false) 3 (fun K' hK' => hK' _ _ _ ?_) (by decide)
  clear hK' K'
  refine run_call (h97) rfl rfl rfl rfl ?_
  refine run_end (z := false) fun K' hK' => hK' _ _ _ (hK _ _ _ ?_)
  clear hK' K' hK K
  refine vc_seq ?_
  refine vc_reg (by kernel_rfl) fun K hK => ?_
  refine run_n (z := false) 4 (fun K' hK' => hK' _ _ _ ?_) (by decide)
  clear hK' K'
  refine run_ro (fun _ => (17, 0)) (h98) ?_ rfl rfl rfl rfl ?_
  · intro x hx
    simp only [List.mem_singleton] at hx
    subst hx
    exact ⟨_, _, _, rfl, fun i v hv => by rw [Nat.zero_add]; exact hv⟩
  refine run_end (z := false) fun K' hK' => hK' _ _ _ (hK _ _ _ ?_)
  clear hK' K' hK K
  refine vc_seq ?_
  refine vc_seq ?_
  refine vc_reg (by kernel_rfl) fun K hK => ?_
  refine run_n (z := false) 2 (fun K' hK' => hK' _ _ _ ?_) (by decide)
  clear hK' K'
  refine run_call (h42) rfl rfl rfl rfl ?_
  refine run_end (z := false) fun K' hK' => hK' _ _ _ (hK _ _ _ ?_)
  clear hK' K' hK K
  refine vc_cond (t := false) rfl (fun h => by cases h) (fun _ => ?_)
  refine vc_skip ?_
  refine vc_seq ?_
  refine vc_go (by kernel_rfl) fun K hK => hK _ _ _ ?_
  clear hK K
  exact vc_ret ⟨.inr rfl, rfl⟩

theorem p96y {a v b : Nat} {r : Rn} (ha : rt a v = true) (hr : okR r = true) (hb : b ≤ 10000000) (h : sc a r.w v true < 2 ^ 100) : RC 96 [fr a v, .bool true, .pointer (some ⟨0, 0, none⟩), .pointer (some ⟨1, 0, none⟩)] [(0, rc r), (1, [u64 b])] (.tuple #[fr (joinN a v r.w (b * r.each.toNat) r.n) r.w, .int .i64 0]) := by
  have hr2 := hr
  simp only [okR, Bool.and_eq_true] at hr2
  have hwr : wt r.w = true := rt_wt hr2.2.2
  have h97 := p97y ha hr hb h
  have hA : rt (sc a r.w v true) r.w = true := rt_mk hwr h
  have hF : rt (farN a v r.w) r.w = true := rt_mk hwr (Nat.lt_of_le_of_lt (far_le a v r.w) h)
  have hLw : rt (lowN a v r.w (b * r.each.toNat)) r.w = true := rt_mk hwr (by have := far_le a v r.w; unfold lowN; omega)
  have h98 := p98 (lowN a v r.w (b * r.each.toNat), r.w) (r.n, r.w)
  rw [mx2_w hLw hr2.2.2] at h98
  have hT : rt (max (lowN a v r.w (b * r.each.toNat)) r.n) r.w = true := rt_mk hwr (by have := rt_w hLw; have := rt_w hr2.2.2; omega)
  have h42 := p42y hT hA
  refine rc_of _ 2 Try.func96 rfl Try.ntmps96 (by kernel_rfl) (by simp) rfl rfl (by simp) (by intro x hx; simp only [List.mem_cons, List.not_mem_nil, or_false] at hx; rcases hx with rfl | rfl <;> rfl) ?_
  refine vc_seq ?_
  refine vc_go (by kernel_rfl) fun K hK => hK _ _ _ ?_
  clear hK K
  refine vc_seq ?_
  refine vc_seq ?_
  refine vc_go (by kernel_rfl) fun K hK => hK _ _ _ ?_
  clear hK K
  refine vc_cond (t := false) rfl (fun h => by cases h) (fun _ => ?_)
  refine vc_skip ?_
  refine vc_seq ?_
  refine vc_reg (by kernel_rfl) fun K hK => ?_
  refine run_n (z := false) 3 (fun K' hK' => hK' _ _ _ ?_) (by decide)
  clear hK' K'
  refine run_call (h97) rfl rfl rfl rfl ?_
  refine run_end (z := false) fun K' hK' => hK' _ _ _ (hK _ _ _ ?_)
  clear hK' K' hK K
  refine vc_seq ?_
  refine vc_reg (by kernel_rfl) fun K hK => ?_
  refine run_n (z := false) 4 (fun K' hK' => hK' _ _ _ ?_) (by decide)
  clear hK' K'
  refine run_ro (fun _ => (17, 0)) (h98) ?_ rfl rfl rfl rfl ?_
  · intro x hx
    simp only [List.mem_singleton] at hx
    subst hx
    exact ⟨_, _, _, rfl, fun i v hv => by rw [Nat.zero_add]; exact hv⟩
  refine run_end (z := false) fun K' hK' => hK' _ _ _ (hK _ _ _ ?_)
  clear hK' K' hK K
  refine vc_seq ?_
  refine vc_seq ?_
  refine vc_reg (by kernel_rfl) fun K hK => ?_
  refine run_n (z := false) 2 (fun K' hK' => hK' _ _ _ ?_) (by decide)
  clear hK' K'
  refine run_call (h42) rfl rfl rfl rfl ?_
  refine run_end (z := false) fun K' hK' => hK' _ _ _ (hK _ _ _ ?_)
  clear hK' K' hK K
  refine vc_cond rfl (fun g => ?_) (fun g => ?_)
  · -- cond 1 t32 true
    refine vc_go (by kernel_rfl) fun K hK => hK _ _ _ ?_
    clear hK K
    refine vc_seq ?_
    refine vc_go (by kernel_rfl) fun K hK => hK _ _ _ ?_
    clear hK K
    refine vc_ret ⟨.inr rfl, ?_⟩
    rw [joinN_a hwr g]
    rfl
  · -- cond 1 t32 false
    refine vc_skip ?_
    refine vc_seq ?_
    refine vc_go (by kernel_rfl) fun K hK => hK _ _ _ ?_
    clear hK K
    refine vc_ret ⟨.inr rfl, ?_⟩
    rw [joinN_b hwr g]
    rfl
end Go.Proofs.Ytdfkcijholopoaa.Vm
