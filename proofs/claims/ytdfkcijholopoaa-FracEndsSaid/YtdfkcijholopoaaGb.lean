/- Layer frac: the greatest, the least of a list. -/
import Derived.Test.YtdfkcijholopoaaGa
import Derived.Test.YtdfkcijholopoaaFd
namespace Go.Proofs.Ytdfkcijholopoaa.Vm
open Go Go.RowKit
set_option maxRecDepth 10000
set_option linter.unusedSimpArgs false
set_option linter.unusedVariables false

/-- The first of the first k that none is ahead of. -/
def bst (ahd : Nat × Nat → Nat × Nat → Bool) (l : List (Nat × Nat)) : Nat → Nat
  | 0 => 0
  | k + 1 => if ahd (l.getD k (0, 0)) (l.getD (bst ahd l k) (0, 0)) = true then k else bst ahd l k
theorem bst_lt (ahd : Nat × Nat → Nat × Nat → Bool) {l : List (Nat × Nat)} (h : 0 < l.length) (k : Nat) (hk : k ≤ l.length) : bst ahd l k < l.length := by
  induction k with
  | zero => exact h
  | succ k ih =>
    unfold bst
    split
    · exact hk
    · exact ih (by omega)
theorem bst_yes {ahd : Nat × Nat → Nat × Nat → Bool} {l : List (Nat × Nat)} {k : Nat} {a b : Nat × Nat} (ha : l[k]? = some a) (hb : l[bst ahd l k]? = some b) (h : ahd a b = true) : bst ahd l (k + 1) = k := by
  rw [bst, List.getD_eq_getElem?_getD, List.getD_eq_getElem?_getD, ha, hb]
  exact if_pos h
theorem bst_no {ahd : Nat × Nat → Nat × Nat → Bool} {l : List (Nat × Nat)} {k : Nat} {a b : Nat × Nat} (ha : l[k]? = some a) (hb : l[bst ahd l k]? = some b) (h : ahd a b = false) : bst ahd l (k + 1) = bst ahd l k := by
  rw [bst, List.getD_eq_getElem?_getD, List.getD_eq_getElem?_getD, ha, hb]
  exact if_neg (by rw [show (some a).getD (0, 0) = a from rfl, show (some b).getD (0, 0) = b from rfl, h]; simp)
def abv (x y : Nat × Nat) : Bool := decide (cmpW (x.1 * y.2) (y.1 * x.2) > 0)
def blw (x y : Nat × Nat) : Bool := decide (cmpW (x.1 * y.2) (y.1 * x.2) < 0)
theorem seg_len0 {h : Nat → Option Blk} {sz m k n c : Nat} (hn : n = 0) : Seg h sz (.slice (some ⟨m, k, none⟩) n c) 0 c [] [] := by subst hn; exact .emp
def fnv (k : Nat) : Value := .func (.func k) #[] #[]
def fine (l : List (Nat × Nat)) : Bool := decide (0 < l.length) && rta l
def ends (ahd : Nat × Nat → Nat × Nat → Bool) (l : List (Nat × Nat)) : Nat := if fine l = true then bst ahd l l.length else 0

theorem p124 {g : Nat} {ahd : Nat × Nat → Nat × Nat → Bool} (hgo : ∀ a b : Nat × Nat, rt a.1 a.2 = true → rt b.1 b.2 = true → Pure g [fr a.1 a.2, fr b.1 b.2] (.bool (ahd a b))) {l : List (Nat × Nat)} (c : Nat) (hl : l.length < 2 ^ 60) (h0 : 0 < l.length) (hr : rta l = true) :
    RO 124 [.slice (some ⟨0, 0, none⟩) l.length c, fnv 125, fnv g] [(0, rws frp l)] (.int .i64 (bst ahd l l.length : Nat)) := by
  refine ro_of _ 1 Try.func124 rfl Try.ntmps124 (by kernel_rfl) (by simp) rfl rfl (by simp) (by simp [frs_plain]) ?_
  refine vc_seq ?_
  refine vc_go (by kernel_rfl) fun K hK => hK _ _ _ ?_
  clear hK K
  refine vc_seq ?_
  refine vc_go (by kernel_rfl) fun K hK => hK _ _ _ ?_
  clear hK K
  refine vc_seq ?_
  refine vc_seq ?_
  refine vc_go (by kernel_rfl) fun K hK => hK _ _ _ ?_
  clear hK K
  refine vc_block ?_
  refine vc_loopF (fun n s => ∃ i : Nat, n = l.length - i ∧ i ≤ l.length ∧ s = can [(0, .slice (some ⟨0, 0, none⟩) l.length c), (1, fnv 125), (2, fnv g), (6, .int .i64 0), (7, .int .i64 ((bst ahd l (i) : Nat) : Int)), (10, .slice (some ⟨0, 0, none⟩) l.length c), (11, .int .i64 (l.length : Int)), (12, .int .i64 ((i : Nat) : Int))] [(0, .cells (rws frp l) 0 false)] 1) l.length ?_ ?_
  · exact ⟨_, fg_focus [(0, .slice (some ⟨0, 0, none⟩) l.length c), (1, fnv 125), (2, fnv g), (6, .int .i64 0), (7, .int .i64 ((bst ahd l (0) : Nat) : Int)), (10, .slice (some ⟨0, 0, none⟩) l.length c), (11, .int .i64 (l.length : Int)), (12, .int .i64 ((0 : Nat) : Int))] [(0, .cells (rws frp l) 0 false)] 1 (by decide) ⟨rfl, rfl, rfl, rfl, rfl, rfl, rfl, rfl, trivial⟩ ⟨sb rfl, trivial⟩ rfl (bdH_one (by decide) (frs_plain l)), 0, rfl, Nat.zero_le _, rfl⟩
  · rintro n s ⟨i, hn, hi, rfl⟩
    refine vc_seq ?_
    refine vc_go (by kernel_rfl) fun K hK => hK _ _ _ ?_
    clear hK K
    refine vc_seq ?_
    refine vc_cond rfl (fun c0 => ?_) (fun c0 => ?_)
    · -- cond 0 t13 true
      refine vc_skip ?_
      refine vc_seq ?_
      refine vc_block ?_
      refine vc_seq ?_
      have hlt := len_le c0
      obtain ⟨a, ha⟩ : ∃ a, l[i]? = some a := ⟨l[i], List.getElem?_eq_getElem hlt⟩
      have hblt := bst_lt ahd h0 i hi
      obtain ⟨b, hb⟩ : ∃ b, l[bst ahd l i]? = some b := ⟨l[bst ahd l i], List.getElem?_eq_getElem hblt⟩
      have hA := hgo a b (rta_mem hr ha) (rta_mem hr hb)
      refine vc_reg (by kernel_rfl) fun K hK => ?_
      refine run_n (z := false) 1 (fun K' hK' => hK' _ _ _ ?_) (by decide)
      clear hK' K'
      refine run_op (vex_ixs (j := i) rfl rfl rfl hlt rfl rfl) rfl ?_
      refine run_rd (vex_ldr frp_len (j := 0) (i := i) (d := frp a) rfl (Nat.zero_add _) rfl (rws_win frp l) rfl ha (by decide) rfl) rfl ?_
      refine run_end (z := false) fun K' hK' => hK' _ _ _ (hK _ _ _ ?_)
      clear hK' K' hK K
      refine vc_seq ?_
      refine vc_regD [(3, 8)] (by kernel_rfl) (by kernel_rfl) fun K hK => ?_
      refine runD_n (z := false) 3 (fun K' hK' => hK' _ _ _ _ ?_) (by decide)
      clear hK' K'
      refine runD_call (p125 a.1 a.2) rfl rfl rfl rfl ?_
      refine runD_n (z := false) 3 (fun K' hK' => hK' _ _ _ _ ?_) (by decide)
      clear hK' K'
      refine runD_op (vex_ixs (j := bst ahd l i) rfl rfl rfl hblt rfl rfl) rfl ?_
      refine runD_rd (vex_ldr frp_len (j := 0) (i := bst ahd l i) (d := frp b) rfl (Nat.zero_add _) rfl (rws_win frp l) rfl hb (by decide) rfl) rfl rfl ?_
      refine runD_call (p125 b.1 b.2) rfl rfl rfl rfl ?_
      refine runD_call hA rfl rfl rfl rfl ?_
      refine runD_end (z := false) fun K' hK' => hK' _ _ _ _ (hK _ _ _ ?_)
      clear hK' K' hK K
      refine vc_cond rfl (fun hg => ?_) (fun hg => ?_)
      · -- cond 1 t27 true
        refine vc_go (by kernel_rfl) fun K hK => hK _ _ _ ?_
        clear hK K
        refine vc_go (by kernel_rfl) fun K hK => hK _ _ _ ?_
        clear hK K
        exact ⟨_, fg_focus [(0, .slice (some ⟨0, 0, none⟩) l.length c), (1, fnv 125), (2, fnv g), (6, .int .i64 0), (7, .int .i64 ((bst ahd l (i + 1) : Nat) : Int)), (10, .slice (some ⟨0, 0, none⟩) l.length c), (11, .int .i64 (l.length : Int)), (12, .int .i64 ((i + 1 : Nat) : Int))] [(0, .cells (rws frp l) 0 false)] 1 (by decide) ⟨rfl, rfl, rfl, rfl, ii (by rw [bst_yes ha hb hg]), rfl, rfl, ii (wrapI (by omega) (by omega)), trivial⟩ ⟨sb rfl, trivial⟩ rfl (bdH_one (by decide) (frs_plain l)), l.length - (i + 1), by omega, i + 1, rfl, hlt, rfl⟩
      · -- cond 1 t27 false
        refine vc_skip ?_
        refine vc_go (by kernel_rfl) fun K hK => hK _ _ _ ?_
        clear hK K
        exact ⟨_, fg_focus [(0, .slice (some ⟨0, 0, none⟩) l.length c), (1, fnv 125), (2, fnv g), (6, .int .i64 0), (7, .int .i64 ((bst ahd l (i + 1) : Nat) : Int)), (10, .slice (some ⟨0, 0, none⟩) l.length c), (11, .int .i64 (l.length : Int)), (12, .int .i64 ((i + 1 : Nat) : Int))] [(0, .cells (rws frp l) 0 false)] 1 (by decide) ⟨rfl, rfl, rfl, rfl, ii (by rw [bst_no ha hb hg]), rfl, rfl, ii (wrapI (by omega) (by omega)), trivial⟩ ⟨sb rfl, trivial⟩ rfl (bdH_one (by decide) (frs_plain l)), l.length - (i + 1), by omega, i + 1, rfl, hlt, rfl⟩
    · -- cond 0 t13 false
      refine vc_exit ?_
      refine vc_seq ?_
      refine vc_go (by kernel_rfl) fun K hK => hK _ _ _ ?_
      clear hK K
      refine vc_ret ⟨.inr rfl, ?_⟩
      have hge := len_ge c0
      obtain rfl : i = l.length := by omega
      rfl
theorem p103e {g : Nat} {ahd : Nat × Nat → Nat × Nat → Bool} (hgo : ∀ a b : Nat × Nat, rt a.1 a.2 = true → rt b.1 b.2 = true → Pure g [fr a.1 a.2, fr b.1 b.2] (.bool (ahd a b))) {l : List (Nat × Nat)} (c : Nat) (hl : l.length < 2 ^ 60) (h : l.length = 0) : RO 103 [.slice (some ⟨0, 0, none⟩) l.length c, fnv g] [(0, rws frp l)] (.tuple #[.int .i64 (ends ahd l : Nat), .bool (fine l)]) := by
  have hf : fine l = false := by simp [fine, h]
  have he : ends ahd l = 0 := by simp [ends, hf]
  rw [hf, he]
  refine ro_of _ 1 Try.func103 rfl Try.ntmps103 (by kernel_rfl) (by simp) rfl rfl (by simp) (by simp [frs_plain]) ?_
  refine vc_seq ?_
  refine vc_go (by kernel_rfl) fun K hK => hK _ _ _ ?_
  clear hK K
  refine vc_seq ?_
  refine vc_seq ?_
  refine vc_reg (by kernel_rfl) fun K hK => ?_
  refine run_n (z := false) 4 (fun K' hK' => hK' _ _ _ ?_) (by decide)
  clear hK' K'
  refine vgo_known 9 (b := true) (bb (by rw [h]; rfl)) ?_
  refine run_end (z := false) fun K' hK' => hK' _ _ _ (hK _ _ _ ?_)
  clear hK' K' hK K
  refine vc_cond (t := true) rfl (fun _ => ?_) (fun h => by cases h)
  refine vc_seq ?_
  refine vc_go (by kernel_rfl) fun K hK => hK _ _ _ ?_
  clear hK K
  exact vc_ret ⟨.inr rfl, rfl⟩
theorem p103n {g : Nat} {ahd : Nat × Nat → Nat × Nat → Bool} (hgo : ∀ a b : Nat × Nat, rt a.1 a.2 = true → rt b.1 b.2 = true → Pure g [fr a.1 a.2, fr b.1 b.2] (.bool (ahd a b))) {l : List (Nat × Nat)} (c : Nat) (hl : l.length < 2 ^ 60) (h : 0 < l.length) (hr : rta l = false) : RO 103 [.slice (some ⟨0, 0, none⟩) l.length c, fnv g] [(0, rws frp l)] (.tuple #[.int .i64 (ends ahd l : Nat), .bool (fine l)]) := by
  have h90 := p90 l c hl
  rw [hr] at h90
  have hf : fine l = false := by simp [fine, hr]
  have he : ends ahd l = 0 := by simp [ends, hf]
  rw [hf, he]
  refine ro_of _ 1 Try.func103 rfl Try.ntmps103 (by kernel_rfl) (by simp) rfl rfl (by simp) (by simp [frs_plain]) ?_
  refine vc_seq ?_
  refine vc_go (by kernel_rfl) fun K hK => hK _ _ _ ?_
  clear hK K
  refine vc_seq ?_
  refine vc_seq ?_
  refine vc_reg (by kernel_rfl) fun K hK => ?_
  refine run_n (z := false) 4 (fun K' hK' => hK' _ _ _ ?_) (by decide)
  clear hK' K'
  refine vgo_known 9 (b := false) (bb (by rw [beq_eq_false_iff_ne]; omega)) ?_
  refine run_n (z := false) 1 (fun K' hK' => hK' _ _ _ ?_) (by decide)
  clear hK' K'
  refine run_ro (fun _ => (0, 0)) (h90) ?_ rfl rfl rfl rfl ?_
  · intro x hx
    simp only [List.mem_singleton] at hx
    subst hx
    exact ⟨_, _, _, rfl, fun i v hv => by rw [Nat.zero_add]; exact hv⟩
  refine run_end (z := false) fun K' hK' => hK' _ _ _ (hK _ _ _ ?_)
  clear hK' K' hK K
  refine vc_cond (t := true) rfl (fun _ => ?_) (fun h => by cases h)
  refine vc_seq ?_
  refine vc_go (by kernel_rfl) fun K hK => hK _ _ _ ?_
  clear hK K
  exact vc_ret ⟨.inr rfl, rfl⟩
theorem p103y {g : Nat} {ahd : Nat × Nat → Nat × Nat → Bool} (hgo : ∀ a b : Nat × Nat, rt a.1 a.2 = true → rt b.1 b.2 = true → Pure g [fr a.1 a.2, fr b.1 b.2] (.bool (ahd a b))) {l : List (Nat × Nat)} (c : Nat) (hl : l.length < 2 ^ 60) (h : 0 < l.length) (hr : rta l = true) : RO 103 [.slice (some ⟨0, 0, none⟩) l.length c, fnv g] [(0, rws frp l)] (.tuple #[.int .i64 (ends ahd l : Nat), .bool (fine l)]) := by
  have h90 := p90 l c hl
  have h124 := p124 hgo c hl h hr
  rw [hr] at h90
  have hf : fine l = true := by simp [fine, h, hr]
  have he : ends ahd l = bst ahd l l.length := by simp [ends, hf]
  rw [hf, he]
  refine ro_of _ 1 Try.func103 rfl Try.ntmps103 (by kernel_rfl) (by simp) rfl rfl (by simp) (by simp [frs_plain]) ?_
  refine vc_seq ?_
  refine vc_go (by kernel_rfl) fun K hK => hK _ _ _ ?_
  clear hK K
  refine vc_seq ?_
  refine vc_seq ?_
  refine vc_reg (by kernel_rfl) fun K hK => ?_
  refine run_n (z := false) 4 (fun K' hK' => hK' _ _ _ ?_) (by decide)
  clear hK' K'
  refine vgo_known 9 (b := false) (bb (by rw [beq_eq_false_iff_ne]; omega)) ?_
  refine run_n (z := false) 1 (fun K' hK' => hK' _ _ _ ?_) (by decide)
  clear hK' K'
  refine run_ro (fun _ => (0, 0)) (h90) ?_ rfl rfl rfl rfl ?_
  · intro x hx
    simp only [List.mem_singleton] at hx
    subst hx
    exact ⟨_, _, _, rfl, fun i v hv => by rw [Nat.zero_add]; exact hv⟩
  refine run_end (z := false) fun K' hK' => hK' _ _ _ (hK _ _ _ ?_)
  clear hK' K' hK K
  refine vc_cond (t := false) rfl (fun h => by cases h) (fun _ => ?_)
  refine vc_skip ?_
  refine vc_seq ?_
  refine vc_reg (by kernel_rfl) fun K hK => ?_
  refine run_n (z := false) 2 (fun K' hK' => hK' _ _ _ ?_) (by decide)
  clear hK' K'
  refine run_ro (fun _ => (0, 0)) (h124) ?_ rfl rfl rfl rfl ?_
  · intro x hx
    simp only [List.mem_singleton] at hx
    subst hx
    exact ⟨_, _, _, rfl, fun i v hv => by rw [Nat.zero_add]; exact hv⟩
  refine run_end (z := false) fun K' hK' => hK' _ _ _ (hK _ _ _ ?_)
  clear hK' K' hK K
  exact vc_ret ⟨.inr rfl, rfl⟩
theorem p103 {g : Nat} {ahd : Nat × Nat → Nat × Nat → Bool} (hgo : ∀ a b : Nat × Nat, rt a.1 a.2 = true → rt b.1 b.2 = true → Pure g [fr a.1 a.2, fr b.1 b.2] (.bool (ahd a b))) {l : List (Nat × Nat)} (c : Nat) (hl : l.length < 2 ^ 60) : RO 103 [.slice (some ⟨0, 0, none⟩) l.length c, fnv g] [(0, rws frp l)] (.tuple #[.int .i64 (ends ahd l : Nat), .bool (fine l)]) := by
  rcases Nat.eq_zero_or_pos l.length with h | h
  · exact p103e hgo c hl h
  · cases hr : rta l
    · exact p103n hgo c hl h hr
    · exact p103y hgo c hl h hr

theorem p53 {l : List (Nat × Nat)} (c : Nat) (hl : l.length < 2 ^ 60) : RO 53 [.slice (some ⟨0, 0, none⟩) l.length c] [(0, rws frp l)] (.tuple #[.int .i64 (ends abv l : Nat), .bool (fine l)]) := by
  have h103 := p103 (g := 104) (ahd := abv) (fun a b ha hb => p104 ha hb) c hl
  refine ro_of _ 1 Try.func53 rfl Try.ntmps53 (by kernel_rfl) (by simp) rfl rfl (by simp) (by simp [frs_plain]) ?_
  refine vc_seq ?_
  refine vc_go (by kernel_rfl) fun K hK => hK _ _ _ ?_
  clear hK K
  refine vc_seq ?_
  refine vc_reg (by kernel_rfl) fun K hK => ?_
  refine run_n (z := false) 1 (fun K' hK' => hK' _ _ _ ?_) (by decide)
  clear hK' K'
  refine run_ro (fun _ => (0, 0)) (h103) ?_ rfl rfl rfl rfl ?_
  · intro x hx
    simp only [List.mem_singleton] at hx
    subst hx
    exact ⟨_, _, _, rfl, fun i v hv => by rw [Nat.zero_add]; exact hv⟩
  refine run_end (z := false) fun K' hK' => hK' _ _ _ (hK _ _ _ ?_)
  clear hK' K' hK K
  exact vc_ret ⟨.inr rfl, rfl⟩
theorem p54 {l : List (Nat × Nat)} (c : Nat) (hl : l.length < 2 ^ 60) : RO 54 [.slice (some ⟨0, 0, none⟩) l.length c] [(0, rws frp l)] (.tuple #[.int .i64 (ends blw l : Nat), .bool (fine l)]) := by
  have h103 := p103 (g := 105) (ahd := blw) (fun a b ha hb => p105 ha hb) c hl
  refine ro_of _ 1 Try.func54 rfl Try.ntmps54 (by kernel_rfl) (by simp) rfl rfl (by simp) (by simp [frs_plain]) ?_
  refine vc_seq ?_
  refine vc_go (by kernel_rfl) fun K hK => hK _ _ _ ?_
  clear hK K
  refine vc_seq ?_
  refine vc_reg (by kernel_rfl) fun K hK => ?_
  refine run_n (z := false) 1 (fun K' hK' => hK' _ _ _ ?_) (by decide)
  clear hK' K'
  refine run_ro (fun _ => (0, 0)) (h103) ?_ rfl rfl rfl rfl ?_
  · intro x hx
    simp only [List.mem_singleton] at hx
    subst hx
    exact ⟨_, _, _, rfl, fun i v hv => by rw [Nat.zero_add]; exact hv⟩
  refine run_end (z := false) fun K' hK' => hK' _ _ _ (hK _ _ _ ?_)
  clear hK' K' hK K
  exact vc_ret ⟨.inr rfl, rfl⟩
theorem fine_take {l : List (Nat × Nat)} {i : Nat} (h : l.length ≤ i) : (decide (0 < l.length) && rta (l.take i)) = fine l := by rw [List.take_of_length_le h]; rfl
theorem ok_yes {l : List (Nat × Nat)} {i : Nat} {a : Nat × Nat} (h : l[i]? = some a) (hg : (decide ((l.length : Int) > 0) && rta (l.take i)) = true) : rt a.1 a.2 = (decide ((l.length : Int) > 0) && rta (l.take (i + 1))) := by
  rw [Bool.and_eq_true] at hg
  rw [hg.1, Bool.true_and, rta, List.take_add_one, h]
  have := hg.2
  unfold rta at this
  simp [this]
theorem ok_no {l : List (Nat × Nat)} {i : Nat} {a : Nat × Nat} (h : l[i]? = some a) (hg : (decide ((l.length : Int) > 0) && rta (l.take i)) = false) : false = (decide ((l.length : Int) > 0) && rta (l.take (i + 1))) := by
  have e : rta (l.take (i + 1)) = (rta (l.take i) && rt a.1 a.2) := by unfold rta; rw [List.take_add_one, h]; simp
  rw [e, ← Bool.and_assoc, hg, Bool.false_and]
theorem ok_end {l : List (Nat × Nat)} : (decide ((l.length : Int) > 0) && rta l) = fine l := by
  unfold fine
  congr 1
  rw [Bool.eq_iff_iff, decide_eq_true_eq, decide_eq_true_eq]
  omega
theorem abv_i {a b : Nat × Nat} {x : Bool} (h : decide (cmpW (a.1 * b.2) (b.1 * a.2) > 0) = x) : abv a b = x := h
theorem blw_i {a b : Nat × Nat} {x : Bool} (h : decide (cmpW (a.1 * b.2) (b.1 * a.2) < 0) = x) : blw a b = x := h

theorem p11A {l : List (Nat × Nat)} (c : Nat) (hb : ∀ x ∈ l, x.1 < 2 ^ 128 ∧ x.2 < 2 ^ 64) (h : 100 < l.length) : RO 11 [.slice (some ⟨0, 0, none⟩) l.length c] [(0, rws frp l)] (.bool true) := by
  refine ro_of _ 1 Try.func11 rfl Try.ntmps11 (by kernel_rfl) (by simp) rfl rfl (by simp) (by simp [frs_plain]) ?_
  refine vc_seq ?_
  refine vc_go (by kernel_rfl) fun K hK => hK _ _ _ ?_
  clear hK K
  refine vc_seq ?_
  refine vc_seq ?_
  refine vc_reg (by kernel_rfl) fun K hK => ?_
  refine run_call (p52) rfl rfl rfl rfl ?_
  refine run_end (z := false) fun K' hK' => hK' _ _ _ (hK _ _ _ ?_)
  clear hK' K' hK K
  refine vc_cond (t := false) rfl (fun h => by cases h) (fun _ => ?_)
  refine vc_skip ?_
  refine vc_seq ?_
  refine vc_seq ?_
  refine vc_go (by kernel_rfl) fun K hK => hK _ _ _ ?_
  clear hK K
  refine vc_cond (t := true) (bb (by rw [decide_eq_true_eq]; omega)) (fun _ => ?_) (fun h => by cases h)
  refine vc_seq ?_
  refine vc_go (by kernel_rfl) fun K hK => hK _ _ _ ?_
  clear hK K
  exact vc_ret ⟨.inr rfl, rfl⟩
theorem p11E {l : List (Nat × Nat)} (c : Nat) (hb : ∀ x ∈ l, x.1 < 2 ^ 128 ∧ x.2 < 2 ^ 64) (h : l.length = 0) : RO 11 [.slice (some ⟨0, 0, none⟩) l.length c] [(0, rws frp l)] (.bool true) := by
  have hl : l.length < 2 ^ 60 := by omega
  have hf : fine l = false := by simp [fine, h]
  have h0 : l = [] := List.eq_nil_of_length_eq_zero h
  have e1 : ends abv l = 0 := by simp [ends, hf]
  have e2 : ends blw l = 0 := by simp [ends, hf]
  have h53 := fun c => p53 (l := l) c hl
  have h54 := fun c => p54 (l := l) c hl
  simp only [hf, e1, e2] at h53 h54
  refine ro_of _ 1 Try.func11 rfl Try.ntmps11 (by kernel_rfl) (by simp) rfl rfl (by simp) (by simp [frs_plain]) ?_
  refine vc_seq ?_
  refine vc_go (by kernel_rfl) fun K hK => hK _ _ _ ?_
  clear hK K
  refine vc_seq ?_
  refine vc_seq ?_
  refine vc_reg (by kernel_rfl) fun K hK => ?_
  refine run_call (p52) rfl rfl rfl rfl ?_
  refine run_end (z := false) fun K' hK' => hK' _ _ _ (hK _ _ _ ?_)
  clear hK' K' hK K
  refine vc_cond (t := false) rfl (fun h => by cases h) (fun _ => ?_)
  refine vc_skip ?_
  refine vc_seq ?_
  refine vc_seq ?_
  refine vc_go (by kernel_rfl) fun K hK => hK _ _ _ ?_
  clear hK K
  refine vc_cond (t := false) (bb (by rw [decide_eq_false_iff_not]; omega)) (fun h => by cases h) (fun _ => ?_)
  refine vc_skip ?_
  refine vc_seq ?_
  refine vc_reg (by kernel_rfl) fun K hK => ?_
  refine run_n (z := false) 2 (fun K' hK' => hK' _ _ _ ?_) (by decide)
  clear hK' K'
  refine run_sp (sp_append_none (z := [u0, u0, u0]) rfl rfl rfl el58 rfl (Nat.le_refl 0) (seg_len0 h)) rfl rfl rfl ⟨_, _, rfl, rfl⟩ ?_
  rintro _ _ ⟨rfl, rfl⟩
  refine run_ro (fun _ => (1, 0)) (by have := h53 0; rw [h0] at this; exact this) ?_ rfl rfl rfl rfl ?_
  · intro x hx
    simp only [List.mem_singleton] at hx
    subst hx
    exact ⟨_, _, _, rfl, fun i v hv => by simp [rws] at hv⟩
  refine run_end (z := false) fun K' hK' => hK' _ _ _ (hK _ _ _ ?_)
  clear hK' K' hK K
  refine vc_seq ?_
  refine vc_reg (by kernel_rfl) fun K hK => ?_
  refine run_n (z := false) 2 (fun K' hK' => hK' _ _ _ ?_) (by decide)
  clear hK' K'
  refine run_sp (sp_append_none (z := [u0, u0, u0]) rfl rfl rfl el58 rfl (Nat.le_refl 0) (seg_len0 h)) rfl rfl rfl ⟨_, _, rfl, rfl⟩ ?_
  rintro _ _ ⟨rfl, rfl⟩
  refine run_ro (fun _ => (2, 0)) (by have := h54 0; rw [h0] at this; exact this) ?_ rfl rfl rfl rfl ?_
  · intro x hx
    simp only [List.mem_singleton] at hx
    subst hx
    exact ⟨_, _, _, rfl, fun i v hv => by simp [rws] at hv⟩
  refine run_end (z := false) fun K' hK' => hK' _ _ _ (hK _ _ _ ?_)
  clear hK' K' hK K
  refine vc_seq ?_
  refine vc_go (by kernel_rfl) fun K hK => hK _ _ _ ?_
  clear hK K
  refine vc_seq ?_
  refine vc_seq ?_
  refine vc_go (by kernel_rfl) fun K hK => hK _ _ _ ?_
  clear hK K
  refine vc_block ?_
  refine vc_loopF (fun n s => ∃ i : Nat, n = l.length - i ∧ i ≤ l.length ∧ s = can [(0, .slice (some ⟨0, 0, none⟩) l.length c), (2, .bool false), (3, .int .i64 0), (4, .bool false), (5, .int .i64 0), (6, .bool false), (7, .int .i64 0), (8, .int .i64 0), (9, .bool (decide ((l.length : Int) > 0) && rta (l.take (i)))), (35, .slice (some ⟨0, 0, none⟩) l.length c), (36, .int .i64 (l.length : Int)), (37, .int .i64 ((i : Nat) : Int))] [(0, .cells (rws frp l) 0 false)] 1) l.length ?_ ?_
  · exact ⟨_, fg_focus [(0, .slice (some ⟨0, 0, none⟩) l.length c), (2, .bool false), (3, .int .i64 0), (4, .bool false), (5, .int .i64 0), (6, .bool false), (7, .int .i64 0), (8, .int .i64 0), (9, .bool (decide ((l.length : Int) > 0) && rta (l.take (0)))), (35, .slice (some ⟨0, 0, none⟩) l.length c), (36, .int .i64 (l.length : Int)), (37, .int .i64 ((0 : Nat) : Int))] [(0, .cells (rws frp l) 0 false)] 1 (by decide) ⟨rfl, rfl, rfl, rfl, rfl, rfl, rfl, rfl, bb (by rw [List.take_zero]; simp [rta]), rfl, rfl, rfl, trivial⟩ ⟨sb rfl, trivial⟩ rfl (bdH_one (by decide) (frs_plain l)), 0, rfl, Nat.zero_le _, rfl⟩
  · rintro n s ⟨i, hn, hi, rfl⟩
    refine vc_seq ?_
    refine vc_go (by kernel_rfl) fun K hK => hK _ _ _ ?_
    clear hK K
    refine vc_seq ?_
    refine vc_cond rfl (fun c3 => ?_) (fun c3 => ?_)
    · -- cond 2 t38 true
      refine vc_skip ?_
      refine vc_seq ?_
      refine vc_block ?_
      refine vc_seq ?_
      have hlt := len_le c3
      obtain ⟨a, ha⟩ : ∃ a, l[i]? = some a := ⟨l[i], List.getElem?_eq_getElem hlt⟩
      refine vc_reg (by kernel_rfl) fun K hK => ?_
      refine run_op (vex_ixs (j := i) rfl rfl rfl hlt rfl rfl) rfl ?_
      refine run_rd (vex_ldr frp_len (j := 0) (i := i) (d := frp a) rfl (Nat.zero_add _) rfl (rws_win frp l) rfl ha (by decide) rfl) rfl ?_
      refine run_end (z := false) fun K' hK' => hK' _ _ _ (hK _ _ _ ?_)
      clear hK' K' hK K
      refine vc_reg (by kernel_rfl) fun K hK => ?_
      refine run_n (z := false) 2 (fun K' hK' => hK' _ _ _ ?_) (by decide)
      clear hK' K'
      refine vgo_case 42 rfl (fun g0 => ?_) (fun g0 => ?_)
      · -- split 0 at 11,2 true
        refine run_n (z := false) 1 (fun K' hK' => hK' _ _ _ ?_) (by decide)
        clear hK' K'
        refine run_call (p55 a.1 a.2) rfl rfl rfl rfl ?_
        refine run_end (z := false) fun K' hK' => hK' _ _ _ (hK _ _ _ ?_)
        clear hK' K' hK K
        refine vc_go (by kernel_rfl) fun K hK => hK _ _ _ ?_
        clear hK K
        exact ⟨_, fg_focus [(0, .slice (some ⟨0, 0, none⟩) l.length c), (2, .bool false), (3, .int .i64 0), (4, .bool false), (5, .int .i64 0), (6, .bool false), (7, .int .i64 0), (8, .int .i64 0), (9, .bool (decide ((l.length : Int) > 0) && rta (l.take (i + 1)))), (35, .slice (some ⟨0, 0, none⟩) l.length c), (36, .int .i64 (l.length : Int)), (37, .int .i64 ((i + 1 : Nat) : Int))] [(0, .cells (rws frp l) 0 false)] 1 (by decide) ⟨rfl, rfl, rfl, rfl, rfl, rfl, rfl, rfl, bb (ok_yes ha g0), rfl, rfl, ii (wrapI (by omega) (by omega)), trivial⟩ ⟨sb rfl, trivial⟩ rfl (bdH_one (by decide) (frs_plain l)), l.length - (i + 1), by omega, i + 1, rfl, hlt, rfl⟩
      · -- split 0 at 11,2 false
        refine run_end (z := false) fun K' hK' => hK' _ _ _ (hK _ _ _ ?_)
        clear hK' K' hK K
        refine vc_go (by kernel_rfl) fun K hK => hK _ _ _ ?_
        clear hK K
        exact ⟨_, fg_focus [(0, .slice (some ⟨0, 0, none⟩) l.length c), (2, .bool false), (3, .int .i64 0), (4, .bool false), (5, .int .i64 0), (6, .bool false), (7, .int .i64 0), (8, .int .i64 0), (9, .bool (decide ((l.length : Int) > 0) && rta (l.take (i + 1)))), (35, .slice (some ⟨0, 0, none⟩) l.length c), (36, .int .i64 (l.length : Int)), (37, .int .i64 ((i + 1 : Nat) : Int))] [(0, .cells (rws frp l) 0 false)] 1 (by decide) ⟨rfl, rfl, rfl, rfl, rfl, rfl, rfl, rfl, bb (ok_no ha g0), rfl, rfl, ii (wrapI (by omega) (by omega)), trivial⟩ ⟨sb rfl, trivial⟩ rfl (bdH_one (by decide) (frs_plain l)), l.length - (i + 1), by omega, i + 1, rfl, hlt, rfl⟩
    · -- cond 2 t38 false
      refine vc_exit ?_
      refine vc_seq ?_
      refine vc_seq ?_
      have hge := len_ge c3
      obtain rfl : i = l.length := by omega
      clear hn hi
      refine vc_go (by kernel_rfl) fun K hK => hK _ _ _ ?_
      clear hK K
      refine refocusF [(0, .slice (some ⟨0, 0, none⟩) l.length c), (2, .bool false), (3, .int .i64 0), (4, .bool false), (5, .int .i64 0), (6, .bool false), (7, .int .i64 0), (8, .int .i64 0), (9, .bool false), (12, .int .i64 ((0 : Nat) : Int))] [(0, .cells (rws frp l) 0 false)] 1 (by decide) ⟨rfl, rfl, rfl, rfl, rfl, rfl, rfl, rfl, bb (by rw [List.take_length, ok_end, hf]), rfl, trivial⟩ ⟨sb rfl, trivial⟩ rfl (bdH_one (by decide) (frs_plain l)) ?_
      refine vc_block ?_
      refine vc_rounds 1 ?_
      refine vc_seq ?_
      refine vc_seq ?_
      refine vc_reg (by kernel_rfl) fun K hK => ?_
      refine run_n (z := false) 5 (fun K' hK' => hK' _ _ _ ?_) (by decide)
      clear hK' K'
      refine vgo_case 51 rfl (fun g1 => ?_) (fun g1 => ?_)
      · -- split 1 at 14,5 true
        refine run_end (z := false) fun K' hK' => hK' _ _ _ (hK _ _ _ ?_)
        clear hK' K' hK K
        refine vc_cond (t := false) rfl (fun h => by cases h) (fun _ => ?_)
        refine vc_exit ?_
        refine vc_seq ?_
        refine vc_reg (by kernel_rfl) fun K hK => ?_
        refine run_n (z := false) 4 (fun K' hK' => hK' _ _ _ ?_) (by decide)
        clear hK' K'
        refine vgo_known 81 (b := true) (rfl) ?_
        refine run_n (z := false) 5 (fun K' hK' => hK' _ _ _ ?_) (by decide)
        clear hK' K'
        refine vgo_known 86 (b := true) (rfl) ?_
        refine run_n (z := false) 5 (fun K' hK' => hK' _ _ _ ?_) (by decide)
        clear hK' K'
        refine vgo_known 91 (b := true) (rfl) ?_
        refine run_end (z := false) fun K' hK' => hK' _ _ _ (hK _ _ _ ?_)
        clear hK' K' hK K
        exact vc_ret ⟨.inr rfl, rfl⟩
      · -- split 1 at 14,5 false
        refine run_end (z := false) fun K' hK' => hK' _ _ _ (hK _ _ _ ?_)
        clear hK' K' hK K
        refine vc_cond (t := false) rfl (fun h => by cases h) (fun _ => ?_)
        refine vc_exit ?_
        refine vc_seq ?_
        refine vc_reg (by kernel_rfl) fun K hK => ?_
        refine run_n (z := false) 4 (fun K' hK' => hK' _ _ _ ?_) (by decide)
        clear hK' K'
        refine vgo_known 81 (b := true) (rfl) ?_
        refine run_n (z := false) 5 (fun K' hK' => hK' _ _ _ ?_) (by decide)
        clear hK' K'
        refine vgo_known 86 (b := true) (rfl) ?_
        refine run_n (z := false) 5 (fun K' hK' => hK' _ _ _ ?_) (by decide)
        clear hK' K'
        refine vgo_known 91 (b := true) (rfl) ?_
        refine run_end (z := false) fun K' hK' => hK' _ _ _ (hK _ _ _ ?_)
        clear hK' K' hK K
        exact vc_ret ⟨.inr rfl, rfl⟩
theorem p11N {l : List (Nat × Nat)} (c : Nat) (hb : ∀ x ∈ l, x.1 < 2 ^ 128 ∧ x.2 < 2 ^ 64) (h : 0 < l.length) (h1 : l.length ≤ 100) (hf : fine l = false) : RO 11 [.slice (some ⟨0, 0, none⟩) l.length c] [(0, rws frp l)] (.bool true) := by
  have hl : l.length < 2 ^ 60 := by omega
  have e1 : ends abv l = 0 := by simp [ends, hf]
  have e2 : ends blw l = 0 := by simp [ends, hf]
  have h53 := fun c => p53 (l := l) c hl
  have h54 := fun c => p54 (l := l) c hl
  simp only [hf, e1, e2] at h53 h54
  refine ro_of _ 1 Try.func11 rfl Try.ntmps11 (by kernel_rfl) (by simp) rfl rfl (by simp) (by simp [frs_plain]) ?_
  refine vc_seq ?_
  refine vc_go (by kernel_rfl) fun K hK => hK _ _ _ ?_
  clear hK K
  refine vc_seq ?_
  refine vc_seq ?_
  refine vc_reg (by kernel_rfl) fun K hK => ?_
  refine run_call (p52) rfl rfl rfl rfl ?_
  refine run_end (z := false) fun K' hK' => hK' _ _ _ (hK _ _ _ ?_)
  clear hK' K' hK K
  refine vc_cond (t := false) rfl (fun h => by cases h) (fun _ => ?_)
  refine vc_skip ?_
  refine vc_seq ?_
  refine vc_seq ?_
  refine vc_go (by kernel_rfl) fun K hK => hK _ _ _ ?_
  clear hK K
  refine vc_cond (t := false) (bb (by rw [decide_eq_false_iff_not]; omega)) (fun h => by cases h) (fun _ => ?_)
  refine vc_skip ?_
  refine vc_seq ?_
  refine vc_reg (by kernel_rfl) fun K hK => ?_
  refine run_n (z := false) 2 (fun K' hK' => hK' _ _ _ ?_) (by decide)
  clear hK' K'
  refine run_sp (sp_append_grow (z := [u0, u0, u0]) rfl rfl rfl el58 .emp (.cells (own := false) (t := 0) rfl (rws_len frp_len l) (fun i v hv => by rw [Nat.zero_add]; exact hv)) (rws_one frp_one l) (by omega) (by omega)) rfl rfl rfl ⟨_, _, _, Nat.le_refl _, rfl, rfl⟩ ?_
  rintro _ _ ⟨cp1, hccp1, rfl, rfl⟩
  refine run_ro (fun _ => (3, 0)) (h53 cp1) ?_ rfl (congrArg (fun x => [Value.slice (some ⟨3, 0, none⟩) x cp1]) (Nat.zero_add _)) rfl rfl ?_
  · intro x hx
    simp only [List.mem_singleton] at hx
    subst hx
    exact ⟨_, _, _, rfl, get_zero_app⟩
  refine run_end (z := false) fun K' hK' => hK' _ _ _ (hK _ _ _ ?_)
  clear hK' K' hK K
  refine vc_seq ?_
  refine vc_reg (by kernel_rfl) fun K hK => ?_
  refine run_n (z := false) 2 (fun K' hK' => hK' _ _ _ ?_) (by decide)
  clear hK' K'
  refine run_sp (sp_append_grow (z := [u0, u0, u0]) rfl rfl rfl el58 .emp (.cells (own := false) (t := 0) rfl (rws_len frp_len l) (fun i v hv => by rw [Nat.zero_add]; exact hv)) (rws_one frp_one l) (by omega) (by omega)) rfl rfl rfl ⟨_, _, _, Nat.le_refl _, rfl, rfl⟩ ?_
  rintro _ _ ⟨cp2, hccp2, rfl, rfl⟩
  refine run_ro (fun _ => (6, 0)) (h54 cp2) ?_ rfl (congrArg (fun x => [Value.slice (some ⟨6, 0, none⟩) x cp2]) (Nat.zero_add _)) rfl rfl ?_
  · intro x hx
    simp only [List.mem_singleton] at hx
    subst hx
    exact ⟨_, _, _, rfl, get_zero_app⟩
  refine run_end (z := false) fun K' hK' => hK' _ _ _ (hK _ _ _ ?_)
  clear hK' K' hK K
  refine vc_seq ?_
  refine vc_go (by kernel_rfl) fun K hK => hK _ _ _ ?_
  clear hK K
  refine vc_seq ?_
  refine vc_seq ?_
  refine vc_go (by kernel_rfl) fun K hK => hK _ _ _ ?_
  clear hK K
  refine vc_block ?_
  refine vc_loopF (fun n s => ∃ i : Nat, n = l.length - i ∧ i ≤ l.length ∧ s = can [(0, .slice (some ⟨0, 0, none⟩) l.length c), (2, .bool false), (3, .int .i64 0), (4, .bool false), (5, .int .i64 0), (6, .bool false), (7, .int .i64 0), (8, .int .i64 0), (9, .bool (decide ((l.length : Int) > 0) && rta (l.take (i)))), (35, .slice (some ⟨0, 0, none⟩) l.length c), (36, .int .i64 (l.length : Int)), (37, .int .i64 ((i : Nat) : Int))] [(0, .cells (rws frp l) 0 false)] 1) l.length ?_ ?_
  · exact ⟨_, fg_focus [(0, .slice (some ⟨0, 0, none⟩) l.length c), (2, .bool false), (3, .int .i64 0), (4, .bool false), (5, .int .i64 0), (6, .bool false), (7, .int .i64 0), (8, .int .i64 0), (9, .bool (decide ((l.length : Int) > 0) && rta (l.take (0)))), (35, .slice (some ⟨0, 0, none⟩) l.length c), (36, .int .i64 (l.length : Int)), (37, .int .i64 ((0 : Nat) : Int))] [(0, .cells (rws frp l) 0 false)] 1 (by decide) ⟨rfl, rfl, rfl, rfl, rfl, rfl, rfl, rfl, bb (by rw [List.take_zero]; simp [rta]), rfl, rfl, rfl, trivial⟩ ⟨sb rfl, trivial⟩ rfl (bdH_one (by decide) (frs_plain l)), 0, rfl, Nat.zero_le _, rfl⟩
  · rintro n s ⟨i, hn, hi, rfl⟩
    refine vc_seq ?_
    refine vc_go (by kernel_rfl) fun K hK => hK _ _ _ ?_
    clear hK K
    refine vc_seq ?_
    refine vc_cond rfl (fun c3 => ?_) (fun c3 => ?_)
    · -- cond 2 t38 true
      refine vc_skip ?_
      refine vc_seq ?_
      refine vc_block ?_
      refine vc_seq ?_
      have hlt := len_le c3
      obtain ⟨a, ha⟩ : ∃ a, l[i]? = some a := ⟨l[i], List.getElem?_eq_getElem hlt⟩
      refine vc_reg (by kernel_rfl) fun K hK => ?_
      refine run_op (vex_ixs (j := i) rfl rfl rfl hlt rfl rfl) rfl ?_
      refine run_rd (vex_ldr frp_len (j := 0) (i := i) (d := frp a) rfl (Nat.zero_add _) rfl (rws_win frp l) rfl ha (by decide) rfl) rfl ?_
      refine run_end (z := false) fun K' hK' => hK' _ _ _ (hK _ _ _ ?_)
      clear hK' K' hK K
      refine vc_reg (by kernel_rfl) fun K hK => ?_
      refine run_n (z := false) 2 (fun K' hK' => hK' _ _ _ ?_) (by decide)
      clear hK' K'
      refine vgo_case 42 rfl (fun g0 => ?_) (fun g0 => ?_)
      · -- split 0 at 11,2 true
        refine run_n (z := false) 1 (fun K' hK' => hK' _ _ _ ?_) (by decide)
        clear hK' K'
        refine run_call (p55 a.1 a.2) rfl rfl rfl rfl ?_
        refine run_end (z := false) fun K' hK' => hK' _ _ _ (hK _ _ _ ?_)
        clear hK' K' hK K
        refine vc_go (by kernel_rfl) fun K hK => hK _ _ _ ?_
        clear hK K
        exact ⟨_, fg_focus [(0, .slice (some ⟨0, 0, none⟩) l.length c), (2, .bool false), (3, .int .i64 0), (4, .bool false), (5, .int .i64 0), (6, .bool false), (7, .int .i64 0), (8, .int .i64 0), (9, .bool (decide ((l.length : Int) > 0) && rta (l.take (i + 1)))), (35, .slice (some ⟨0, 0, none⟩) l.length c), (36, .int .i64 (l.length : Int)), (37, .int .i64 ((i + 1 : Nat) : Int))] [(0, .cells (rws frp l) 0 false)] 1 (by decide) ⟨rfl, rfl, rfl, rfl, rfl, rfl, rfl, rfl, bb (ok_yes ha g0), rfl, rfl, ii (wrapI (by omega) (by omega)), trivial⟩ ⟨sb rfl, trivial⟩ rfl (bdH_one (by decide) (frs_plain l)), l.length - (i + 1), by omega, i + 1, rfl, hlt, rfl⟩
      · -- split 0 at 11,2 false
        refine run_end (z := false) fun K' hK' => hK' _ _ _ (hK _ _ _ ?_)
        clear hK' K' hK K
        refine vc_go (by kernel_rfl) fun K hK => hK _ _ _ ?_
        clear hK K
        exact ⟨_, fg_focus [(0, .slice (some ⟨0, 0, none⟩) l.length c), (2, .bool false), (3, .int .i64 0), (4, .bool false), (5, .int .i64 0), (6, .bool false), (7, .int .i64 0), (8, .int .i64 0), (9, .bool (decide ((l.length : Int) > 0) && rta (l.take (i + 1)))), (35, .slice (some ⟨0, 0, none⟩) l.length c), (36, .int .i64 (l.length : Int)), (37, .int .i64 ((i + 1 : Nat) : Int))] [(0, .cells (rws frp l) 0 false)] 1 (by decide) ⟨rfl, rfl, rfl, rfl, rfl, rfl, rfl, rfl, bb (ok_no ha g0), rfl, rfl, ii (wrapI (by omega) (by omega)), trivial⟩ ⟨sb rfl, trivial⟩ rfl (bdH_one (by decide) (frs_plain l)), l.length - (i + 1), by omega, i + 1, rfl, hlt, rfl⟩
    · -- cond 2 t38 false
      refine vc_exit ?_
      refine vc_seq ?_
      refine vc_seq ?_
      have hge := len_ge c3
      obtain rfl : i = l.length := by omega
      clear hn hi
      refine vc_go (by kernel_rfl) fun K hK => hK _ _ _ ?_
      clear hK K
      refine refocusF [(0, .slice (some ⟨0, 0, none⟩) l.length c), (2, .bool false), (3, .int .i64 0), (4, .bool false), (5, .int .i64 0), (6, .bool false), (7, .int .i64 0), (8, .int .i64 0), (9, .bool false), (12, .int .i64 ((0 : Nat) : Int))] [(0, .cells (rws frp l) 0 false)] 1 (by decide) ⟨rfl, rfl, rfl, rfl, rfl, rfl, rfl, rfl, bb (by rw [List.take_length, ok_end, hf]), rfl, trivial⟩ ⟨sb rfl, trivial⟩ rfl (bdH_one (by decide) (frs_plain l)) ?_
      refine vc_block ?_
      refine vc_rounds 1 ?_
      refine vc_seq ?_
      refine vc_seq ?_
      refine vc_reg (by kernel_rfl) fun K hK => ?_
      refine run_n (z := false) 5 (fun K' hK' => hK' _ _ _ ?_) (by decide)
      clear hK' K'
      refine vgo_case 51 rfl (fun g1 => ?_) (fun g1 => ?_)
      · -- split 1 at 14,5 true
        refine run_end (z := false) fun K' hK' => hK' _ _ _ (hK _ _ _ ?_)
        clear hK' K' hK K
        refine vc_cond (t := false) rfl (fun h => by cases h) (fun _ => ?_)
        refine vc_exit ?_
        refine vc_seq ?_
        refine vc_reg (by kernel_rfl) fun K hK => ?_
        refine run_n (z := false) 4 (fun K' hK' => hK' _ _ _ ?_) (by decide)
        clear hK' K'
        refine vgo_known 81 (b := true) (rfl) ?_
        refine run_n (z := false) 5 (fun K' hK' => hK' _ _ _ ?_) (by decide)
        clear hK' K'
        refine vgo_known 86 (b := true) (rfl) ?_
        refine run_n (z := false) 5 (fun K' hK' => hK' _ _ _ ?_) (by decide)
        clear hK' K'
        refine vgo_known 91 (b := true) (rfl) ?_
        refine run_end (z := false) fun K' hK' => hK' _ _ _ (hK _ _ _ ?_)
        clear hK' K' hK K
        exact vc_ret ⟨.inr rfl, rfl⟩
      · -- split 1 at 14,5 false
        refine run_end (z := false) fun K' hK' => hK' _ _ _ (hK _ _ _ ?_)
        clear hK' K' hK K
        refine vc_cond (t := false) rfl (fun h => by cases h) (fun _ => ?_)
        refine vc_exit ?_
        refine vc_seq ?_
        refine vc_reg (by kernel_rfl) fun K hK => ?_
        refine run_n (z := false) 4 (fun K' hK' => hK' _ _ _ ?_) (by decide)
        clear hK' K'
        refine vgo_known 81 (b := true) (rfl) ?_
        refine run_n (z := false) 5 (fun K' hK' => hK' _ _ _ ?_) (by decide)
        clear hK' K'
        refine vgo_known 86 (b := true) (rfl) ?_
        refine run_n (z := false) 5 (fun K' hK' => hK' _ _ _ ?_) (by decide)
        clear hK' K'
        refine vgo_known 91 (b := true) (rfl) ?_
        refine run_end (z := false) fun K' hK' => hK' _ _ _ (hK _ _ _ ?_)
        clear hK' K' hK K
        exact vc_ret ⟨.inr rfl, rfl⟩
theorem p11Y {l : List (Nat × Nat)} (c : Nat) (hb : ∀ x ∈ l, x.1 < 2 ^ 128 ∧ x.2 < 2 ^ 64) (h : 0 < l.length) (h1 : l.length ≤ 100) (hf : fine l = true) : RO 11 [.slice (some ⟨0, 0, none⟩) l.length c] [(0, rws frp l)] (.bool true) := by
  have hl : l.length < 2 ^ 60 := by omega
  have e1 : ends abv l = bst abv l l.length := by simp [ends, hf]
  have e2 : ends blw l = bst blw l l.length := by simp [ends, hf]
  have h53 := fun c => p53 (l := l) c hl
  have h54 := fun c => p54 (l := l) c hl
  simp only [hf, e1, e2] at h53 h54
  refine ro_of _ 1 Try.func11 rfl Try.ntmps11 (by kernel_rfl) (by simp) rfl rfl (by simp) (by simp [frs_plain]) ?_
  refine vc_seq ?_
  refine vc_go (by kernel_rfl) fun K hK => hK _ _ _ ?_
  clear hK K
  refine vc_seq ?_
  refine vc_seq ?_
  refine vc_reg (by kernel_rfl) fun K hK => ?_
  refine run_call (p52) rfl rfl rfl rfl ?_
  refine run_end (z := false) fun K' hK' => hK' _ _ _ (hK _ _ _ ?_)
  clear hK' K' hK K
  refine vc_cond (t := false) rfl (fun h => by cases h) (fun _ => ?_)
  refine vc_skip ?_
  refine vc_seq ?_
  refine vc_seq ?_
  refine vc_go (by kernel_rfl) fun K hK => hK _ _ _ ?_
  clear hK K
  refine vc_cond (t := false) (bb (by rw [decide_eq_false_iff_not]; omega)) (fun h => by cases h) (fun _ => ?_)
  refine vc_skip ?_
  refine vc_seq ?_
  refine vc_reg (by kernel_rfl) fun K hK => ?_
  refine run_n (z := false) 2 (fun K' hK' => hK' _ _ _ ?_) (by decide)
  clear hK' K'
  refine run_sp (sp_append_grow (z := [u0, u0, u0]) rfl rfl rfl el58 .emp (.cells (own := false) (t := 0) rfl (rws_len frp_len l) (fun i v hv => by rw [Nat.zero_add]; exact hv)) (rws_one frp_one l) (by omega) (by omega)) rfl rfl rfl ⟨_, _, _, Nat.le_refl _, rfl, rfl⟩ ?_
  rintro _ _ ⟨cp1, hccp1, rfl, rfl⟩
  refine run_ro (fun _ => (3, 0)) (h53 cp1) ?_ rfl (congrArg (fun x => [Value.slice (some ⟨3, 0, none⟩) x cp1]) (Nat.zero_add _)) rfl rfl ?_
  · intro x hx
    simp only [List.mem_singleton] at hx
    subst hx
    exact ⟨_, _, _, rfl, get_zero_app⟩
  refine run_end (z := false) fun K' hK' => hK' _ _ _ (hK _ _ _ ?_)
  clear hK' K' hK K
  refine vc_seq ?_
  refine vc_reg (by kernel_rfl) fun K hK => ?_
  refine run_n (z := false) 2 (fun K' hK' => hK' _ _ _ ?_) (by decide)
  clear hK' K'
  refine run_sp (sp_append_grow (z := [u0, u0, u0]) rfl rfl rfl el58 .emp (.cells (own := false) (t := 0) rfl (rws_len frp_len l) (fun i v hv => by rw [Nat.zero_add]; exact hv)) (rws_one frp_one l) (by omega) (by omega)) rfl rfl rfl ⟨_, _, _, Nat.le_refl _, rfl, rfl⟩ ?_
  rintro _ _ ⟨cp2, hccp2, rfl, rfl⟩
  refine run_ro (fun _ => (6, 0)) (h54 cp2) ?_ rfl (congrArg (fun x => [Value.slice (some ⟨6, 0, none⟩) x cp2]) (Nat.zero_add _)) rfl rfl ?_
  · intro x hx
    simp only [List.mem_singleton] at hx
    subst hx
    exact ⟨_, _, _, rfl, get_zero_app⟩
  refine run_end (z := false) fun K' hK' => hK' _ _ _ (hK _ _ _ ?_)
  clear hK' K' hK K
  refine vc_seq ?_
  refine vc_go (by kernel_rfl) fun K hK => hK _ _ _ ?_
  clear hK K
  refine vc_seq ?_
  refine vc_seq ?_
  refine vc_go (by kernel_rfl) fun K hK => hK _ _ _ ?_
  clear hK K
  refine vc_block ?_
  refine vc_loopF (fun n s => ∃ i : Nat, n = l.length - i ∧ i ≤ l.length ∧ s = can [(0, .slice (some ⟨0, 0, none⟩) l.length c), (2, .bool false), (3, .int .i64 ((bst abv l l.length : Nat) : Int)), (4, .bool true), (5, .int .i64 ((bst blw l l.length : Nat) : Int)), (6, .bool true), (7, .int .i64 0), (8, .int .i64 0), (9, .bool (decide ((l.length : Int) > 0) && rta (l.take (i)))), (35, .slice (some ⟨0, 0, none⟩) l.length c), (36, .int .i64 (l.length : Int)), (37, .int .i64 ((i : Nat) : Int))] [(0, .cells (rws frp l) 0 false)] 1) l.length ?_ ?_
  · exact ⟨_, fg_focus [(0, .slice (some ⟨0, 0, none⟩) l.length c), (2, .bool false), (3, .int .i64 ((bst abv l l.length : Nat) : Int)), (4, .bool true), (5, .int .i64 ((bst blw l l.length : Nat) : Int)), (6, .bool true), (7, .int .i64 0), (8, .int .i64 0), (9, .bool (decide ((l.length : Int) > 0) && rta (l.take (0)))), (35, .slice (some ⟨0, 0, none⟩) l.length c), (36, .int .i64 (l.length : Int)), (37, .int .i64 ((0 : Nat) : Int))] [(0, .cells (rws frp l) 0 false)] 1 (by decide) ⟨rfl, rfl, rfl, rfl, rfl, rfl, rfl, rfl, bb (by rw [List.take_zero]; simp [rta]), rfl, rfl, rfl, trivial⟩ ⟨sb rfl, trivial⟩ rfl (bdH_one (by decide) (frs_plain l)), 0, rfl, Nat.zero_le _, rfl⟩
  · rintro n s ⟨i, hn, hi, rfl⟩
    refine vc_seq ?_
    refine vc_go (by kernel_rfl) fun K hK => hK _ _ _ ?_
    clear hK K
    refine vc_seq ?_
    refine vc_cond rfl (fun c3 => ?_) (fun c3 => ?_)
    · -- cond 2 t38 true
      refine vc_skip ?_
      refine vc_seq ?_
      refine vc_block ?_
      refine vc_seq ?_
      have hlt := len_le c3
      obtain ⟨a, ha⟩ : ∃ a, l[i]? = some a := ⟨l[i], List.getElem?_eq_getElem hlt⟩
      refine vc_reg (by kernel_rfl) fun K hK => ?_
      refine run_op (vex_ixs (j := i) rfl rfl rfl hlt rfl rfl) rfl ?_
      refine run_rd (vex_ldr frp_len (j := 0) (i := i) (d := frp a) rfl (Nat.zero_add _) rfl (rws_win frp l) rfl ha (by decide) rfl) rfl ?_
      refine run_end (z := false) fun K' hK' => hK' _ _ _ (hK _ _ _ ?_)
      clear hK' K' hK K
      refine vc_reg (by kernel_rfl) fun K hK => ?_
      refine run_n (z := false) 2 (fun K' hK' => hK' _ _ _ ?_) (by decide)
      clear hK' K'
      refine vgo_case 42 rfl (fun g0 => ?_) (fun g0 => ?_)
      · -- split 0 at 11,2 true
        refine run_n (z := false) 1 (fun K' hK' => hK' _ _ _ ?_) (by decide)
        clear hK' K'
        refine run_call (p55 a.1 a.2) rfl rfl rfl rfl ?_
        refine run_end (z := false) fun K' hK' => hK' _ _ _ (hK _ _ _ ?_)
        clear hK' K' hK K
        refine vc_go (by kernel_rfl) fun K hK => hK _ _ _ ?_
        clear hK K
        exact ⟨_, fg_focus [(0, .slice (some ⟨0, 0, none⟩) l.length c), (2, .bool false), (3, .int .i64 ((bst abv l l.length : Nat) : Int)), (4, .bool true), (5, .int .i64 ((bst blw l l.length : Nat) : Int)), (6, .bool true), (7, .int .i64 0), (8, .int .i64 0), (9, .bool (decide ((l.length : Int) > 0) && rta (l.take (i + 1)))), (35, .slice (some ⟨0, 0, none⟩) l.length c), (36, .int .i64 (l.length : Int)), (37, .int .i64 ((i + 1 : Nat) : Int))] [(0, .cells (rws frp l) 0 false)] 1 (by decide) ⟨rfl, rfl, rfl, rfl, rfl, rfl, rfl, rfl, bb (ok_yes ha g0), rfl, rfl, ii (wrapI (by omega) (by omega)), trivial⟩ ⟨sb rfl, trivial⟩ rfl (bdH_one (by decide) (frs_plain l)), l.length - (i + 1), by omega, i + 1, rfl, hlt, rfl⟩
      · -- split 0 at 11,2 false
        refine run_end (z := false) fun K' hK' => hK' _ _ _ (hK _ _ _ ?_)
        clear hK' K' hK K
        refine vc_go (by kernel_rfl) fun K hK => hK _ _ _ ?_
        clear hK K
        exact ⟨_, fg_focus [(0, .slice (some ⟨0, 0, none⟩) l.length c), (2, .bool false), (3, .int .i64 ((bst abv l l.length : Nat) : Int)), (4, .bool true), (5, .int .i64 ((bst blw l l.length : Nat) : Int)), (6, .bool true), (7, .int .i64 0), (8, .int .i64 0), (9, .bool (decide ((l.length : Int) > 0) && rta (l.take (i + 1)))), (35, .slice (some ⟨0, 0, none⟩) l.length c), (36, .int .i64 (l.length : Int)), (37, .int .i64 ((i + 1 : Nat) : Int))] [(0, .cells (rws frp l) 0 false)] 1 (by decide) ⟨rfl, rfl, rfl, rfl, rfl, rfl, rfl, rfl, bb (ok_no ha g0), rfl, rfl, ii (wrapI (by omega) (by omega)), trivial⟩ ⟨sb rfl, trivial⟩ rfl (bdH_one (by decide) (frs_plain l)), l.length - (i + 1), by omega, i + 1, rfl, hlt, rfl⟩
    · -- cond 2 t38 false
      refine vc_exit ?_
      refine vc_seq ?_
      refine vc_seq ?_
      have hge := len_ge c3
      obtain rfl : i = l.length := by omega
      clear hn hi
      refine vc_go (by kernel_rfl) fun K hK => hK _ _ _ ?_
      clear hK K
      refine refocusF [(0, .slice (some ⟨0, 0, none⟩) l.length c), (2, .bool false), (3, .int .i64 ((bst abv l l.length : Nat) : Int)), (4, .bool true), (5, .int .i64 ((bst blw l l.length : Nat) : Int)), (6, .bool true), (7, .int .i64 0), (8, .int .i64 0), (9, .bool true), (12, .int .i64 ((0 : Nat) : Int))] [(0, .cells (rws frp l) 0 false)] 1 (by decide) ⟨rfl, rfl, rfl, rfl, rfl, rfl, rfl, rfl, bb (by rw [List.take_length, ok_end, hf]), rfl, trivial⟩ ⟨sb rfl, trivial⟩ rfl (bdH_one (by decide) (frs_plain l)) ?_
      refine vc_block ?_
      refine vc_loopF (fun n s => ∃ i : Nat, n = l.length - i ∧ i ≤ l.length ∧ s = can [(0, .slice (some ⟨0, 0, none⟩) l.length c), (2, .bool false), (3, .int .i64 ((bst abv l l.length : Nat) : Int)), (4, .bool true), (5, .int .i64 ((bst blw l l.length : Nat) : Int)), (6, .bool true), (7, .int .i64 ((bst abv l (i) : Nat) : Int)), (8, .int .i64 ((bst blw l (i) : Nat) : Int)), (9, .bool true), (12, .int .i64 ((i : Nat) : Int))] [(0, .cells (rws frp l) 0 false)] 1) l.length ?_ ?_
      · exact ⟨_, Fg.refl _ _, 0, rfl, Nat.zero_le _, rfl⟩
      · rintro n s ⟨i, hn, hi, rfl⟩
        refine vc_seq ?_
        refine vc_seq ?_
        refine vc_reg (by kernel_rfl) fun K hK => ?_
        refine run_n (z := false) 5 (fun K' hK' => hK' _ _ _ ?_) (by decide)
        clear hK' K'
        refine vgo_case 51 rfl (fun gx => ?_) (fun gx => ?_)
        · -- split 1 at 14,5 true
          refine run_end (z := false) fun K' hK' => hK' _ _ _ (hK _ _ _ ?_)
          clear hK' K' hK K
          refine vc_cond (t := true) rfl (fun _ => ?_) (fun h => by cases h)
          refine vc_skip ?_
          refine vc_seq ?_
          refine vc_block ?_
          refine vc_seq ?_
          refine vc_seq ?_
          have hlt := len_le gx
          obtain ⟨a, ha⟩ : ∃ a, l[i]? = some a := ⟨l[i], List.getElem?_eq_getElem hlt⟩
          have hma := hb a (List.mem_of_getElem? ha)
          have hb1l := bst_lt abv h i hi
          obtain ⟨b1, hb1⟩ : ∃ b, l[bst abv l i]? = some b := ⟨l[bst abv l i], List.getElem?_eq_getElem hb1l⟩
          have hm1 := hb b1 (List.mem_of_getElem? hb1)
          have h561 := p56 hma.1 hma.2 hm1.1 hm1.2
          have hb2l := bst_lt blw h i hi
          obtain ⟨b2, hb2⟩ : ∃ b, l[bst blw l i]? = some b := ⟨l[bst blw l i], List.getElem?_eq_getElem hb2l⟩
          have hm2 := hb b2 (List.mem_of_getElem? hb2)
          have h562 := p56 hma.1 hma.2 hm2.1 hm2.2
          refine vc_regD [] (by kernel_rfl) (by kernel_rfl) fun K hK => ?_
          refine runD_n (z := false) 2 (fun K' hK' => hK' _ _ _ _ ?_) (by decide)
          clear hK' K'
          refine runD_op (vex_ixs (j := i) rfl rfl rfl hlt rfl rfl) rfl ?_
          refine runD_rd (vex_ldr frp_len (j := 0) (i := i) (d := frp a) rfl (Nat.zero_add _) rfl (rws_win frp l) rfl ha (by decide) rfl) rfl rfl ?_
          refine runD_n (z := false) 2 (fun K' hK' => hK' _ _ _ _ ?_) (by decide)
          clear hK' K'
          refine runD_op (vex_ixs (j := bst abv l i) rfl rfl rfl hb1l rfl rfl) rfl ?_
          refine runD_rd (vex_ldr frp_len (j := 0) (i := bst abv l i) (d := frp b1) rfl (Nat.zero_add _) rfl (rws_win frp l) rfl hb1 (by decide) rfl) rfl rfl ?_
          refine runD_call h561 rfl rfl rfl rfl ?_
          refine runD_end (z := false) fun K' hK' => hK' _ _ _ _ (hK _ _ _ ?_)
          clear hK' K' hK K
          refine vc_cond rfl (fun g1 => ?_) (fun g1 => ?_)
          · -- cond 4 t65 true
            refine vc_go (by kernel_rfl) fun K hK => hK _ _ _ ?_
            clear hK K
            refine vc_seq ?_
            refine vc_regD [] (by kernel_rfl) (by kernel_rfl) fun K hK => ?_
            refine runD_n (z := false) 2 (fun K' hK' => hK' _ _ _ _ ?_) (by decide)
            clear hK' K'
            refine runD_op (vex_ixs (j := i) rfl rfl rfl hlt rfl rfl) rfl ?_
            refine runD_rd (vex_ldr frp_len (j := 0) (i := i) (d := frp a) rfl (Nat.zero_add _) rfl (rws_win frp l) rfl ha (by decide) rfl) rfl rfl ?_
            refine runD_n (z := false) 2 (fun K' hK' => hK' _ _ _ _ ?_) (by decide)
            clear hK' K'
            refine runD_op (vex_ixs (j := bst blw l i) rfl rfl rfl hb2l rfl rfl) rfl ?_
            refine runD_rd (vex_ldr frp_len (j := 0) (i := bst blw l i) (d := frp b2) rfl (Nat.zero_add _) rfl (rws_win frp l) rfl hb2 (by decide) rfl) rfl rfl ?_
            refine runD_call h562 rfl rfl rfl rfl ?_
            refine runD_end (z := false) fun K' hK' => hK' _ _ _ _ (hK _ _ _ ?_)
            clear hK' K' hK K
            refine vc_cond rfl (fun g2 => ?_) (fun g2 => ?_)
            · -- cond 5 t76 true
              refine vc_go (by kernel_rfl) fun K hK => hK _ _ _ ?_
              clear hK K
              refine vc_go (by kernel_rfl) fun K hK => hK _ _ _ ?_
              clear hK K
              exact ⟨_, fg_focus [(0, .slice (some ⟨0, 0, none⟩) l.length c), (2, .bool false), (3, .int .i64 ((bst abv l l.length : Nat) : Int)), (4, .bool true), (5, .int .i64 ((bst blw l l.length : Nat) : Int)), (6, .bool true), (7, .int .i64 ((bst abv l (i + 1) : Nat) : Int)), (8, .int .i64 ((bst blw l (i + 1) : Nat) : Int)), (9, .bool true), (12, .int .i64 ((i + 1 : Nat) : Int))] [(0, .cells (rws frp l) 0 false)] 1 (by decide) ⟨rfl, rfl, rfl, rfl, rfl, rfl, ii (by rw [bst_yes ha hb1 (abv_i g1)]), ii (by rw [bst_yes ha hb2 (blw_i g2)]), rfl, ii (wrapI (by omega) (by omega)), trivial⟩ ⟨sb rfl, trivial⟩ rfl (bdH_one (by decide) (frs_plain l)), l.length - (i + 1), by omega, i + 1, rfl, hlt, rfl⟩
            · -- cond 5 t76 false
              refine vc_skip ?_
              refine vc_go (by kernel_rfl) fun K hK => hK _ _ _ ?_
              clear hK K
              exact ⟨_, fg_focus [(0, .slice (some ⟨0, 0, none⟩) l.length c), (2, .bool false), (3, .int .i64 ((bst abv l l.length : Nat) : Int)), (4, .bool true), (5, .int .i64 ((bst blw l l.length : Nat) : Int)), (6, .bool true), (7, .int .i64 ((bst abv l (i + 1) : Nat) : Int)), (8, .int .i64 ((bst blw l (i + 1) : Nat) : Int)), (9, .bool true), (12, .int .i64 ((i + 1 : Nat) : Int))] [(0, .cells (rws frp l) 0 false)] 1 (by decide) ⟨rfl, rfl, rfl, rfl, rfl, rfl, ii (by rw [bst_yes ha hb1 (abv_i g1)]), ii (by rw [bst_no ha hb2 (blw_i g2)]), rfl, ii (wrapI (by omega) (by omega)), trivial⟩ ⟨sb rfl, trivial⟩ rfl (bdH_one (by decide) (frs_plain l)), l.length - (i + 1), by omega, i + 1, rfl, hlt, rfl⟩
          · -- cond 4 t65 false
            refine vc_skip ?_
            refine vc_seq ?_
            refine vc_regD [] (by kernel_rfl) (by kernel_rfl) fun K hK => ?_
            refine runD_n (z := false) 2 (fun K' hK' => hK' _ _ _ _ ?_) (by decide)
            clear hK' K'
            refine runD_op (vex_ixs (j := i) rfl rfl rfl hlt rfl rfl) rfl ?_
            refine runD_rd (vex_ldr frp_len (j := 0) (i := i) (d := frp a) rfl (Nat.zero_add _) rfl (rws_win frp l) rfl ha (by decide) rfl) rfl rfl ?_
            refine runD_n (z := false) 2 (fun K' hK' => hK' _ _ _ _ ?_) (by decide)
            clear hK' K'
            refine runD_op (vex_ixs (j := bst blw l i) rfl rfl rfl hb2l rfl rfl) rfl ?_
            refine runD_rd (vex_ldr frp_len (j := 0) (i := bst blw l i) (d := frp b2) rfl (Nat.zero_add _) rfl (rws_win frp l) rfl hb2 (by decide) rfl) rfl rfl ?_
            refine runD_call h562 rfl rfl rfl rfl ?_
            refine runD_end (z := false) fun K' hK' => hK' _ _ _ _ (hK _ _ _ ?_)
            clear hK' K' hK K
            refine vc_cond rfl (fun g2 => ?_) (fun g2 => ?_)
            · -- cond 6 t76 true
              refine vc_go (by kernel_rfl) fun K hK => hK _ _ _ ?_
              clear hK K
              refine vc_go (by kernel_rfl) fun K hK => hK _ _ _ ?_
              clear hK K
              exact ⟨_, fg_focus [(0, .slice (some ⟨0, 0, none⟩) l.length c), (2, .bool false), (3, .int .i64 ((bst abv l l.length : Nat) : Int)), (4, .bool true), (5, .int .i64 ((bst blw l l.length : Nat) : Int)), (6, .bool true), (7, .int .i64 ((bst abv l (i + 1) : Nat) : Int)), (8, .int .i64 ((bst blw l (i + 1) : Nat) : Int)), (9, .bool true), (12, .int .i64 ((i + 1 : Nat) : Int))] [(0, .cells (rws frp l) 0 false)] 1 (by decide) ⟨rfl, rfl, rfl, rfl, rfl, rfl, ii (by rw [bst_no ha hb1 (abv_i g1)]), ii (by rw [bst_yes ha hb2 (blw_i g2)]), rfl, ii (wrapI (by omega) (by omega)), trivial⟩ ⟨sb rfl, trivial⟩ rfl (bdH_one (by decide) (frs_plain l)), l.length - (i + 1), by omega, i + 1, rfl, hlt, rfl⟩
            · -- cond 6 t76 false
              refine vc_skip ?_
              refine vc_go (by kernel_rfl) fun K hK => hK _ _ _ ?_
              clear hK K
              exact ⟨_, fg_focus [(0, .slice (some ⟨0, 0, none⟩) l.length c), (2, .bool false), (3, .int .i64 ((bst abv l l.length : Nat) : Int)), (4, .bool true), (5, .int .i64 ((bst blw l l.length : Nat) : Int)), (6, .bool true), (7, .int .i64 ((bst abv l (i + 1) : Nat) : Int)), (8, .int .i64 ((bst blw l (i + 1) : Nat) : Int)), (9, .bool true), (12, .int .i64 ((i + 1 : Nat) : Int))] [(0, .cells (rws frp l) 0 false)] 1 (by decide) ⟨rfl, rfl, rfl, rfl, rfl, rfl, ii (by rw [bst_no ha hb1 (abv_i g1)]), ii (by rw [bst_no ha hb2 (blw_i g2)]), rfl, ii (wrapI (by omega) (by omega)), trivial⟩ ⟨sb rfl, trivial⟩ rfl (bdH_one (by decide) (frs_plain l)), l.length - (i + 1), by omega, i + 1, rfl, hlt, rfl⟩
        · -- split 1 at 14,5 false
          refine run_end (z := false) fun K' hK' => hK' _ _ _ (hK _ _ _ ?_)
          clear hK' K' hK K
          refine vc_cond (t := false) rfl (fun h => by cases h) (fun _ => ?_)
          refine vc_exit ?_
          refine vc_seq ?_
          have hge2 := len_ge gx
          obtain rfl : i = l.length := by omega
          refine vc_reg (by kernel_rfl) fun K hK => ?_
          refine run_n (z := false) 4 (fun K' hK' => hK' _ _ _ ?_) (by decide)
          clear hK' K'
          refine vgo_known 81 (b := true) (bb (by simp)) ?_
          refine run_n (z := false) 5 (fun K' hK' => hK' _ _ _ ?_) (by decide)
          clear hK' K'
          refine vgo_known 86 (b := true) (rfl) ?_
          refine run_n (z := false) 5 (fun K' hK' => hK' _ _ _ ?_) (by decide)
          clear hK' K'
          refine vgo_known 91 (b := true) (bb (by simp)) ?_
          refine run_end (z := false) fun K' hK' => hK' _ _ _ (hK _ _ _ ?_)
          clear hK' K' hK K
          exact vc_ret ⟨.inr rfl, rfl⟩
theorem p11 {l : List (Nat × Nat)} (c : Nat) (hb : ∀ x ∈ l, x.1 < 2 ^ 128 ∧ x.2 < 2 ^ 64) : RO 11 [.slice (some ⟨0, 0, none⟩) l.length c] [(0, rws frp l)] (.bool true) := by
  by_cases h1 : 100 < l.length
  · exact p11A c hb h1
  rcases Nat.eq_zero_or_pos l.length with h | h
  · exact p11E c hb h
  · cases hf : fine l
    · exact p11N c hb h (by omega) hf
    · exact p11Y c hb h (by omega) hf

theorem p11nil : Pure 11 [.slice none 0 0] (.bool true) := by
  have h53 := p53 (l := []) 0 (by decide)
  have h54 := p54 (l := []) 0 (by decide)
  have e : fine [] = false := rfl
  have e1 : ends abv [] = 0 := by simp [ends, e]
  have e2 : ends blw [] = 0 := by simp [ends, e]
  rw [e, e1] at h53
  rw [e, e2] at h54
  refine pure_of Try.func11 rfl Try.ntmps11 (by kernel_rfl) rfl (by simp) rfl ?_
  refine vc_seq ?_
  refine vc_go (by kernel_rfl) fun K hK => hK _ _ _ ?_
  clear hK K
  refine vc_seq ?_
  refine vc_seq ?_
  refine vc_reg (by kernel_rfl) fun K hK => ?_
  refine run_call (p52) rfl rfl rfl rfl ?_
  refine run_end (z := false) fun K' hK' => hK' _ _ _ (hK _ _ _ ?_)
  clear hK' K' hK K
  refine vc_cond (t := false) rfl (fun h => by cases h) (fun _ => ?_)
  refine vc_skip ?_
  refine vc_seq ?_
  refine vc_seq ?_
  refine vc_go (by kernel_rfl) fun K hK => hK _ _ _ ?_
  clear hK K
  refine vc_cond (t := false) rfl (fun h => by cases h) (fun _ => ?_)
  refine vc_skip ?_
  refine vc_seq ?_
  refine vc_reg (by kernel_rfl) fun K hK => ?_
  refine run_n (z := false) 2 (fun K' hK' => hK' _ _ _ ?_) (by decide)
  clear hK' K'
  refine run_sp (sp_append_none (z := [u0, u0, u0]) rfl rfl rfl el58 rfl (Nat.le_refl 0) .nil) rfl rfl rfl ⟨_, _, rfl, rfl⟩ ?_
  rintro _ _ ⟨rfl, rfl⟩
  refine run_ro (fun _ => (0, 0)) h53 ?_ rfl rfl rfl rfl ?_
  · intro x hx
    simp only [List.mem_singleton] at hx
    subst hx
    exact ⟨_, _, _, rfl, fun i v hv => by simp [rws] at hv⟩
  refine run_end (z := false) fun K' hK' => hK' _ _ _ (hK _ _ _ ?_)
  clear hK' K' hK K
  refine vc_seq ?_
  refine vc_reg (by kernel_rfl) fun K hK => ?_
  refine run_n (z := false) 2 (fun K' hK' => hK' _ _ _ ?_) (by decide)
  clear hK' K'
  refine run_sp (sp_append_none (z := [u0, u0, u0]) rfl rfl rfl el58 rfl (Nat.le_refl 0) .nil) rfl rfl rfl ⟨_, _, rfl, rfl⟩ ?_
  rintro _ _ ⟨rfl, rfl⟩
  refine run_ro (fun _ => (1, 0)) h54 ?_ rfl rfl rfl rfl ?_
  · intro x hx
    simp only [List.mem_singleton] at hx
    subst hx
    exact ⟨_, _, _, rfl, fun i v hv => by simp [rws] at hv⟩
  refine run_end (z := false) fun K' hK' => hK' _ _ _ (hK _ _ _ ?_)
  clear hK' K' hK K
  refine vc_seq ?_
  refine vc_go (by kernel_rfl) fun K hK => hK _ _ _ ?_
  clear hK K
  refine vc_seq ?_
  refine vc_seq ?_
  refine vc_go (by kernel_rfl) fun K hK => hK _ _ _ ?_
  clear hK K
  refine vc_block ?_
  refine vc_rounds 1 ?_
  refine vc_seq ?_
  refine vc_go (by kernel_rfl) fun K hK => hK _ _ _ ?_
  clear hK K
  refine vc_seq ?_
  refine vc_cond (t := false) rfl (fun h => by cases h) (fun _ => ?_)
  refine vc_exit ?_
  refine vc_seq ?_
  refine vc_seq ?_
  refine vc_go (by kernel_rfl) fun K hK => hK _ _ _ ?_
  clear hK K
  refine vc_block ?_
  refine vc_rounds 1 ?_
  refine vc_seq ?_
  refine vc_seq ?_
  refine vc_reg (by kernel_rfl) fun K hK => ?_
  refine run_n (z := false) 5 (fun K' hK' => hK' _ _ _ ?_) (by decide)
  clear hK' K'
  refine vgo_known 51 (b := false) (rfl) ?_
  refine run_end (z := false) fun K' hK' => hK' _ _ _ (hK _ _ _ ?_)
  clear hK' K' hK K
  refine vc_cond (t := false) rfl (fun h => by cases h) (fun _ => ?_)
  refine vc_exit ?_
  refine vc_seq ?_
  refine vc_reg (by kernel_rfl) fun K hK => ?_
  refine run_n (z := false) 4 (fun K' hK' => hK' _ _ _ ?_) (by decide)
  clear hK' K'
  refine vgo_known 81 (b := true) (rfl) ?_
  refine run_n (z := false) 5 (fun K' hK' => hK' _ _ _ ?_) (by decide)
  clear hK' K'
  refine vgo_known 86 (b := true) (rfl) ?_
  refine run_n (z := false) 5 (fun K' hK' => hK' _ _ _ ?_) (by decide)
  clear hK' K'
  refine vgo_known 91 (b := true) (rfl) ?_
  refine run_end (z := false) fun K' hK' => hK' _ _ _ (hK _ _ _ ?_)
  clear hK' K' hK K
  exact vc_ret ⟨.inr rfl, rfl⟩
end Go.Proofs.Ytdfkcijholopoaa.Vm
