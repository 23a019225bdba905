/- What the proofs stand on, in one text: Tb, Tc, Vm28, Td, Vm29. -/
import Derived.Test.YtdfkcijholopoaaMg7
import Derived.Test.YtdfkcijholopoaaMg4
import Derived.Lib.Overlaps
namespace Go.Proofs.Ytdfkcijholopoaa.Vm
open Go Go.RowKit
set_option maxRecDepth 10000
set_option linter.unusedSimpArgs false
set_option linter.unusedVariables false


/-- One more time, among those ahead. -/
def top1 (acc : Option (Nat × Nat)) (r : Rn) : Nat × Nat :=
  match acc with
  | none => (r.n, r.w)
  | some (a, v) => if cmpW (r.n * v) (a * r.w) > 0 then (r.n, r.w) else (a, v)
def topS : Option (Nat × Nat) → List Rn → Option (Nat × Nat)
  | acc, [] => acc
  | acc, r :: l => topS (some (top1 acc r)) l
def accV (acc : Option (Nat × Nat)) : Nat × Nat := acc.getD (0, 0)
theorem okR_rt {r : Rn} (h : okR r = true) : rt r.n r.w = true := by
  simp only [okR, Bool.and_eq_true] at h
  exact h.2.2
theorem okq_mem {l : List Rn} : ∀ {last : Int}, okq last l = true → ∀ r ∈ l, okR r = true := by
  induction l with
  | nil => intro _ _ r h; cases h
  | cons a l ih =>
    intro last h r hr
    simp only [okq, Bool.and_eq_true] at h
    rcases List.mem_cons.1 hr with rfl | hr
    · exact h.1
    · exact ih h.2.2 r hr
theorem top1_up {a v : Nat} {r : Rn} (h : decide (cmpW (r.n * v) (a * r.w) > 0) = true) : top1 (some (a, v)) r = (r.n, r.w) := if_pos (of_decide_eq_true h)
theorem top1_no {a v : Nat} {r : Rn} (h : decide (cmpW (r.n * v) (a * r.w) > 0) = false) : top1 (some (a, v)) r = (a, v) := if_neg (of_decide_eq_false h)
theorem blkf {m : Nat} {x y : Nat × Nat} (h : x = y) : some (Blk.cells (frc x.1 x.2) m true) = some (.cells (frc y.1 y.2) m true) := by rw [h]
theorem sbf {h : Nat → Option Blk} {k m : Nat} {x y : Nat × Nat} (e : h k = some (.cells (frc x.1 x.2) m true)) (hxy : x = y) : Sb h k (.cells (frc y.1 y.2) m true) := by subst hxy; exact sb e


theorem p87 {l : List Rn} (c : Nat) (hl : l.length < 2 ^ 60) (hq : okq 0 l = true) : RO 87 [qv 0 l.length c] [(0, rws rc l)] (.tuple #[fr (accV (topS none l)).1 (accV (topS none l)).2, .bool (topS none l).isSome]) := by
  refine ro_of _ 1 Try.func87 rfl Try.ntmps87 (by kernel_rfl) (by simp) rfl rfl (by simp) (by simp [rcs_plain]) ?_
  refine vc_seq ?_
  refine vc_go (by kernel_rfl) fun K hK => hK _ _ _ ?_
  clear hK K
  refine vc_seq ?_
  refine vc_seq ?_
  refine vc_go (by kernel_rfl) fun K hK => hK _ _ _ ?_
  clear hK K
  refine vc_block ?_
  refine vc_loopF (fun n s => ∃ (i : Nat) (acc : Option (Nat × Nat)), n = l.length - i ∧ i ≤ l.length ∧ topS none l = topS acc (l.drop i) ∧ (∀ x, acc = some x → rt x.1 x.2 = true) ∧ s = can [(2, .pointer (some ⟨2, 0, none⟩)), (3, .bool acc.isSome), (7, .slice (some ⟨0, 0, none⟩) l.length c), (8, .int .i64 (l.length : Int)), (9, .int .i64 ((i : Nat) : Int))] [(0, .cells (rws rc l) 0 false), (2, .cells (frc (accV acc).1 (accV acc).2) 58 true)] 3) l.length ?_ ?_
  · exact ⟨_, fg_focus [(2, .pointer (some ⟨2, 0, none⟩)), (3, .bool false), (7, .slice (some ⟨0, 0, none⟩) l.length c), (8, .int .i64 (l.length : Int)), (9, .int .i64 ((0 : Nat) : Int))] [(0, .cells (rws rc l) 0 false), (2, .cells (frc (accV none).1 (accV none).2) 58 true)] 3 (by decide) ⟨rfl, rfl, rfl, rfl, rfl, trivial⟩ ⟨sb rfl, sb rfl, trivial⟩ rfl (by simp [bdH, bdB, bdL_plain, rcs_plain, frc, bdL, bdV]), 0, none, rfl, Nat.zero_le _, rfl, fun x h => (by cases h), rfl⟩
  · rintro n s ⟨i, acc, hn, hi, htop, hrt, rfl⟩
    refine vc_seq ?_
    refine vc_go (by kernel_rfl) fun K hK => hK _ _ _ ?_
    clear hK K
    refine vc_seq ?_
    refine vc_cond rfl (fun c0 => ?_) (fun c0 => ?_)
    · -- cond 0 t10 true
      refine vc_skip ?_
      refine vc_seq ?_
      refine vc_block ?_
      refine vc_seq ?_
      have hlt := len_le c0
      obtain ⟨a, ha⟩ : ∃ a, l[i]? = some a := ⟨l[i], List.getElem?_eq_getElem hlt⟩
      have hra := okR_rt (okq_mem hq a (List.mem_of_getElem? ha))
      refine vc_reg (by kernel_rfl) fun K hK => ?_
      refine run_op (vex_ixs (j := i) rfl rfl rfl hlt rfl rfl) rfl ?_
      refine run_rd (vex_ldr rc_len (j := 0) (i := i) (d := rc a) rfl (Nat.zero_add _) rfl (rws_win rc l) rfl ha (by decide) rfl) rfl ?_
      refine run_end (z := false) fun K' hK' => hK' _ _ _ (hK _ _ _ ?_)
      clear hK' K' hK K
      refine vc_seq ?_
      rcases acc with _ | ⟨a0, v0⟩
      · skip
        refine vc_reg (by kernel_rfl) fun K hK => ?_
        refine run_n (z := false) 3 (fun K' hK' => hK' _ _ _ ?_) (by decide)
        clear hK' K'
        refine vgo_known 15 (b := true) (rfl) ?_
        refine run_end (z := false) fun K' hK' => hK' _ _ _ (hK _ _ _ ?_)
        clear hK' K' hK K
        refine vc_cond (t := true) rfl (fun _ => ?_) (fun h => by cases h)
        refine vc_go (by kernel_rfl) fun K hK => hK _ _ _ ?_
        clear hK K
        refine vc_go (by kernel_rfl) fun K hK => hK _ _ _ ?_
        clear hK K
        exact ⟨_, fg_focus [(2, .pointer (some ⟨2, 0, none⟩)), (3, .bool true), (7, .slice (some ⟨0, 0, none⟩) l.length c), (8, .int .i64 (l.length : Int)), (9, .int .i64 ((i + 1 : Nat) : Int))] [(0, .cells (rws rc l) 0 false), (2, .cells (frc (top1 none a).1 (top1 none a).2) 58 true)] 3 (by decide) ⟨rfl, rfl, rfl, rfl, ii (wrapI (by omega) (by omega)), trivial⟩ ⟨sb rfl, sb rfl, trivial⟩ rfl (by simp [bdH, bdB, bdL_plain, rcs_plain, frc, bdL, bdV]), l.length - (i + 1), by omega, i + 1, some (top1 none a), rfl, hlt, by rw [htop, drop_cons ha]; rfl, fun x h => by cases h; exact hra, rfl⟩
      · skip
        refine vc_reg (by kernel_rfl) fun K hK => ?_
        refine run_n (z := false) 3 (fun K' hK' => hK' _ _ _ ?_) (by decide)
        clear hK' K'
        refine vgo_known 15 (b := false) (rfl) ?_
        refine run_n (z := false) 3 (fun K' hK' => hK' _ _ _ ?_) (by decide)
        clear hK' K'
        refine run_call (p42y hra (hrt _ rfl)) rfl rfl rfl rfl ?_
        refine run_end (z := false) fun K' hK' => hK' _ _ _ (hK _ _ _ ?_)
        clear hK' K' hK K
        refine vc_cond rfl (fun hb => ?_) (fun hb => ?_)
        · -- cond 2 t21 true
          refine vc_go (by kernel_rfl) fun K hK => hK _ _ _ ?_
          clear hK K
          refine vc_go (by kernel_rfl) fun K hK => hK _ _ _ ?_
          clear hK K
          exact ⟨_, fg_focus [(2, .pointer (some ⟨2, 0, none⟩)), (3, .bool true), (7, .slice (some ⟨0, 0, none⟩) l.length c), (8, .int .i64 (l.length : Int)), (9, .int .i64 ((i + 1 : Nat) : Int))] [(0, .cells (rws rc l) 0 false), (2, .cells (frc (top1 (some (a0, v0)) a).1 (top1 (some (a0, v0)) a).2) 58 true)] 3 (by decide) ⟨rfl, rfl, rfl, rfl, ii (wrapI (by omega) (by omega)), trivial⟩ ⟨sb rfl, sbf (x := (a.n, a.w)) rfl (top1_up hb).symm, trivial⟩ rfl (by simp [bdH, bdB, bdL_plain, rcs_plain, frc, bdL, bdV]), l.length - (i + 1), by omega, i + 1, some (top1 (some (a0, v0)) a), rfl, hlt, by rw [htop, drop_cons ha]; rfl, fun x h => by cases h; rw [top1_up hb]; exact hra, rfl⟩
        · -- cond 2 t21 false
          refine vc_skip ?_
          refine vc_go (by kernel_rfl) fun K hK => hK _ _ _ ?_
          clear hK K
          exact ⟨_, fg_focus [(2, .pointer (some ⟨2, 0, none⟩)), (3, .bool true), (7, .slice (some ⟨0, 0, none⟩) l.length c), (8, .int .i64 (l.length : Int)), (9, .int .i64 ((i + 1 : Nat) : Int))] [(0, .cells (rws rc l) 0 false), (2, .cells (frc (top1 (some (a0, v0)) a).1 (top1 (some (a0, v0)) a).2) 58 true)] 3 (by decide) ⟨rfl, rfl, rfl, rfl, ii (wrapI (by omega) (by omega)), trivial⟩ ⟨sb rfl, sbf (x := (a0, v0)) rfl (top1_no hb).symm, trivial⟩ rfl (by simp [bdH, bdB, bdL_plain, rcs_plain, frc, bdL, bdV]), l.length - (i + 1), by omega, i + 1, some (top1 (some (a0, v0)) a), rfl, hlt, by rw [htop, drop_cons ha]; rfl, fun x h => by cases h; rw [top1_no hb]; exact hrt _ rfl, rfl⟩
    · -- cond 0 t10 false
      refine vc_exit ?_
      refine vc_seq ?_
      refine vc_go (by kernel_rfl) fun K hK => hK _ _ _ ?_
      clear hK K
      refine vc_ret ⟨.inr rfl, ?_⟩
      have hge := len_ge c0
      rw [List.drop_eq_nil_of_le hge] at htop
      rw [htop]
      rfl

/-- What Top says. -/
def topQ (l : List Rn) : Option (Nat × Nat) := if okq 0 l = true then topS none l else none
theorem chk1_yes {l : List Rn} (h : okq 0 l = true) : chk1 l = 0 := if_pos h
theorem chk1_no {l : List Rn} (h : okq 0 l = false) : chk1 l = 200 := if_neg (by rw [h]; simp)
theorem topQ_yes {l : List Rn} (h : okq 0 l = true) : topQ l = topS none l := if_pos h
theorem topQ_no {l : List Rn} (h : okq 0 l = false) : topQ l = none := if_neg (by rw [h]; simp)


theorem p40n {l : List Rn} (c : Nat) (hl : l.length < 2 ^ 60) (hq : okq 0 l = false) : RO 40 [qv 0 l.length c] [(0, rws rc l)] (.tuple #[fr (accV (topQ l)).1 (accV (topQ l)).2, .bool (topQ l).isSome]) := by
  have h47 := p47 l c hl
  rw [chk1_no hq] at h47
  rw [topQ_no hq]
  refine ro_of _ 1 Try.func40 rfl Try.ntmps40 (by kernel_rfl) (by simp) rfl rfl (by simp) (by simp [rcs_plain]) ?_
  refine vc_seq ?_
  refine vc_go (by kernel_rfl) fun K hK => hK _ _ _ ?_
  clear hK K
  refine vc_seq ?_
  refine vc_seq ?_
  refine vc_reg (by kernel_rfl) fun K hK => ?_
  refine run_n (z := false) 1 (fun K' hK' => hK' _ _ _ ?_) (by decide)
  clear hK' K'
  refine run_ro (fun _ => (0, 0)) (h47) ?_ rfl rfl rfl rfl ?_
  · intro x hx
    simp only [List.mem_singleton] at hx
    subst hx
    exact ⟨_, _, _, rfl, fun i v hv => by rw [Nat.zero_add]; exact hv⟩
  refine run_end (z := false) fun K' hK' => hK' _ _ _ (hK _ _ _ ?_)
  clear hK' K' hK K
  refine vc_cond (t := true) rfl (fun _ => ?_) (fun h => by cases h)
  refine vc_seq ?_
  refine vc_go (by kernel_rfl) fun K hK => hK _ _ _ ?_
  clear hK K
  exact vc_ret ⟨.inr rfl, rfl⟩

theorem p40y {l : List Rn} (c : Nat) (hl : l.length < 2 ^ 60) (hq : okq 0 l = true) : RO 40 [qv 0 l.length c] [(0, rws rc l)] (.tuple #[fr (accV (topQ l)).1 (accV (topQ l)).2, .bool (topQ l).isSome]) := by
  have h47 := p47 l c hl
  have h87 := p87 c hl hq
  rw [chk1_yes hq] at h47
  rw [topQ_yes hq]
  refine ro_of _ 1 Try.func40 rfl Try.ntmps40 (by kernel_rfl) (by simp) rfl rfl (by simp) (by simp [rcs_plain]) ?_
  refine vc_seq ?_
  refine vc_go (by kernel_rfl) fun K hK => hK _ _ _ ?_
  clear hK K
  refine vc_seq ?_
  refine vc_seq ?_
  refine vc_reg (by kernel_rfl) fun K hK => ?_
  refine run_n (z := false) 1 (fun K' hK' => hK' _ _ _ ?_) (by decide)
  clear hK' K'
  refine run_ro (fun _ => (0, 0)) (h47) ?_ rfl rfl rfl rfl ?_
  · intro x hx
    simp only [List.mem_singleton] at hx
    subst hx
    exact ⟨_, _, _, rfl, fun i v hv => by rw [Nat.zero_add]; exact hv⟩
  refine run_end (z := false) fun K' hK' => hK' _ _ _ (hK _ _ _ ?_)
  clear hK' K' hK K
  refine vc_cond (t := false) rfl (fun h => by cases h) (fun _ => ?_)
  refine vc_skip ?_
  refine vc_seq ?_
  refine vc_reg (by kernel_rfl) fun K hK => ?_
  refine run_n (z := false) 1 (fun K' hK' => hK' _ _ _ ?_) (by decide)
  clear hK' K'
  refine run_ro (fun _ => (0, 0)) (h87) ?_ rfl rfl rfl rfl ?_
  · intro x hx
    simp only [List.mem_singleton] at hx
    subst hx
    exact ⟨_, _, _, rfl, fun i v hv => by rw [Nat.zero_add]; exact hv⟩
  refine run_end (z := false) fun K' hK' => hK' _ _ _ (hK _ _ _ ?_)
  clear hK' K' hK K
  exact vc_ret ⟨.inr rfl, rfl⟩

theorem p40 (l : List Rn) (c : Nat) (hl : l.length < 2 ^ 60) : RO 40 [qv 0 l.length c] [(0, rws rc l)] (.tuple #[fr (accV (topQ l)).1 (accV (topQ l)).2, .bool (topQ l).isSome]) := by
  cases hq : okq 0 l
  · exact p40n c hl hq
  · exact p40y c hl hq


def cmpT (r : Rn) (t : Int) : Int := IntKind.i64.wrap (r.id - t)
def ltT (l : List Rn) (t : Int) (h : Nat) : Bool := decide (cmpT (l.getD h default) t < 0)
/-- The search by halves. -/
def bsr (g : Nat → Bool) : Nat → Nat → Nat → Nat
  | 0, i, _ => i
  | f + 1, i, j => if i < j then (if g ((i + j) / 2) = true then bsr g f ((i + j) / 2 + 1) j else bsr g f i ((i + j) / 2)) else i
def atI (l : List Rn) (t : Int) : Nat := bsr (ltT l t) l.length 0 l.length
def atB (l : List Rn) (t : Int) : Bool := match l[atI l t]? with
  | some r => cmpT r t == 0
  | none => false
theorem bsr_spec (g : Nat → Bool) : ∀ (f i j : Nat), i ≤ j → j - i ≤ f → i ≤ bsr g f i j ∧ bsr g f i j ≤ j ∧ (bsr g f i j = i ∨ g (bsr g f i j - 1) = true) ∧ (bsr g f i j = j ∨ g (bsr g f i j) = false)
  | 0, i, j, h, hf => by
    have : i = j := by omega
    subst this
    exact ⟨Nat.le_refl _, Nat.le_refl _, .inl rfl, .inl rfl⟩
  | f + 1, i, j, h, hf => by
    unfold bsr
    split
    · rename_i hij
      split
      · rename_i hg
        obtain ⟨h1, h2, h3, h4⟩ := bsr_spec g f ((i + j) / 2 + 1) j (by omega) (by omega)
        refine ⟨by omega, h2, .inr ?_, h4⟩
        rcases h3 with h3 | h3
        · rw [h3]; exact hg
        · exact h3
      · rename_i hg
        obtain ⟨h1, h2, h3, h4⟩ := bsr_spec g f i ((i + j) / 2) (by omega) (by omega)
        refine ⟨h1, by omega, h3, .inr ?_⟩
        rcases h4 with h4 | h4
        · rw [h4]; simpa using hg
        · exact h4
    · have : i = j := by omega
      subst this
      exact ⟨Nat.le_refl _, Nat.le_refl _, .inl rfl, .inl rfl⟩
theorem bsr_done {g : Nat → Bool} {f i j : Nat} (h : ¬ i < j) : bsr g f i j = i := by
  cases f with
  | zero => rfl
  | succ f => rw [bsr, if_neg h]
theorem half_raw {i j : Nat} (h : i + j < 2 ^ 62) : IntKind.i64.wrap ((IntKind.u64.wrap (IntKind.i64.wrap ((i : Int) + (j : Int)))).fdiv (2 ^ (min (1 : Int).toNat IntKind.u64.bits))) = (((i + j) / 2 : Nat) : Int) := by
  have e2 : (2 : Int) ^ (min (1 : Int).toNat IntKind.u64.bits) = 2 := rfl
  rw [wrapI (n := (i : Int) + (j : Int)) (by omega) (by omega), e2, wrap64, Int.emod_eq_of_lt (by omega) (by omega), Int.fdiv_eq_ediv_of_nonneg _ (by decide), wrapI (by omega) (by omega)]
  omega


theorem p120 (r : Rn) (t : Int) : Pure 120 [rv r, .int .i64 t] (.int .i64 (cmpT r t)) := by
  refine pure_of Try.func120 rfl Try.ntmps120 (by kernel_rfl) rfl (by simp) rfl ?_
  refine vc_seq ?_
  refine vc_go (by kernel_rfl) fun K hK => hK _ _ _ ?_
  clear hK K
  refine vc_seq ?_
  refine vc_go (by kernel_rfl) fun K hK => hK _ _ _ ?_
  clear hK K
  exact vc_ret ⟨.inr rfl, rfl⟩
theorem ltT_of {l : List Rn} {t : Int} {h : Nat} {a : Rn} {b : Bool} (ha : l[h]? = some a) (hb : decide (cmpT a t < 0) = b) : ltT l t h = b := by
  rw [ltT, List.getD_eq_getElem?_getD, ha]; exact hb
theorem lt_of {i j : Nat} (h : decide ((i : Int) < (j : Int)) = true) : i < j := by rw [decide_eq_true_eq] at h; omega
theorem nlt_of {i j : Nat} (h : decide ((i : Int) < (j : Int)) = false) : ¬ i < j := by rw [decide_eq_false_iff_not] at h; omega
theorem atB_some {l : List Rn} {t : Int} {a : Rn} (h : l[atI l t]? = some a) : atB l t = (cmpT a t == 0) := by rw [atB, h]
theorem atB_none {l : List Rn} {t : Int} (h : l[atI l t]? = none) : atB l t = false := by rw [atB, h]


theorem p119 {l : List Rn} (c : Nat) (t : Int) (hl : l.length < 2 ^ 60) : RO 119 [.slice (some ⟨0, 0, none⟩) l.length c, .int .i64 t, .func (.func 120) #[] #[]] [(0, rws rc l)] (.tuple #[.int .i64 (atI l t : Nat), .bool (atB l t)]) := by
  refine ro_of _ 1 Try.func119 rfl Try.ntmps119 (by kernel_rfl) (by simp) rfl rfl (by simp) (by simp [rcs_plain]) ?_
  refine vc_seq ?_
  refine vc_go (by kernel_rfl) fun K hK => hK _ _ _ ?_
  clear hK K
  refine vc_seq ?_
  refine vc_go (by kernel_rfl) fun K hK => hK _ _ _ ?_
  clear hK K
  refine vc_seq ?_
  refine vc_go (by kernel_rfl) fun K hK => hK _ _ _ ?_
  clear hK K
  refine vc_seq ?_
  refine vc_block ?_
  refine vc_loopF (fun n s => ∃ i j f : Nat, n = j - i ∧ i ≤ j ∧ j ≤ l.length ∧ j - i ≤ f ∧ atI l t = bsr (ltT l t) f i j ∧ s = can [(0, .slice (some ⟨0, 0, none⟩) l.length c), (1, .int .i64 t), (2, .func (.func 120) #[] #[]), (6, .int .i64 0), (7, .bool false), (8, .int .i64 (l.length : Int)), (9, .int .i64 ((i : Nat) : Int)), (10, .int .i64 ((j : Nat) : Int))] [(0, .cells (rws rc l) 0 false)] 1) l.length ?_ ?_
  · exact ⟨_, fg_focus [(0, .slice (some ⟨0, 0, none⟩) l.length c), (1, .int .i64 t), (2, .func (.func 120) #[] #[]), (6, .int .i64 0), (7, .bool false), (8, .int .i64 (l.length : Int)), (9, .int .i64 ((0 : Nat) : Int)), (10, .int .i64 ((l.length : Nat) : Int))] [(0, .cells (rws rc l) 0 false)] 1 (by decide) ⟨rfl, rfl, rfl, rfl, rfl, rfl, rfl, rfl, trivial⟩ ⟨sb rfl, trivial⟩ rfl (bdH_one (by decide) (rcs_plain l)), 0, l.length, l.length, rfl, Nat.zero_le _, Nat.le_refl _, Nat.le_refl _, rfl, rfl⟩
  · rintro n s ⟨i, j, f, hn, hij, hj, hf, hat, rfl⟩
    refine vc_seq ?_
    refine vc_seq ?_
    refine vc_go (by kernel_rfl) fun K hK => hK _ _ _ ?_
    clear hK K
    refine vc_cond rfl (fun c0 => ?_) (fun c0 => ?_)
    · -- cond 0 t17 true
      refine vc_skip ?_
      refine vc_block ?_
      refine vc_seq ?_
      have hlt := lt_of c0
      obtain ⟨f, rfl⟩ : ∃ f2, f = f2 + 1 := ⟨f - 1, by omega⟩
      have hh : ((i + j) / 2) < l.length := by omega
      obtain ⟨a, ha⟩ : ∃ a, l[((i + j) / 2)]? = some a := ⟨l[((i + j) / 2)], List.getElem?_eq_getElem hh⟩
      refine vc_go (by kernel_rfl) fun K hK => hK _ _ _ ?_
      clear hK K
      refine refocusF [(0, .slice (some ⟨0, 0, none⟩) l.length c), (1, .int .i64 t), (2, .func (.func 120) #[] #[]), (6, .int .i64 0), (7, .bool false), (8, .int .i64 (l.length : Int)), (9, .int .i64 ((i : Nat) : Int)), (10, .int .i64 ((j : Nat) : Int)), (11, .int .i64 (((i + j) / 2) : Nat))] [(0, .cells (rws rc l) 0 false)] 1 (by decide) ⟨rfl, rfl, rfl, rfl, rfl, rfl, rfl, rfl, ii (half_raw (by omega)), trivial⟩ ⟨sb rfl, trivial⟩ rfl (bdH_one (by decide) (rcs_plain l)) ?_
      refine vc_seq ?_
      refine vc_reg (by kernel_rfl) fun K hK => ?_
      refine run_n (z := false) 3 (fun K' hK' => hK' _ _ _ ?_) (by decide)
      clear hK' K'
      refine run_op (vex_ixs (j := ((i + j) / 2)) rfl rfl rfl hh rfl rfl) rfl ?_
      refine run_rd (vex_ldr rc_len (j := 0) (i := ((i + j) / 2)) (d := rc a) rfl (Nat.zero_add _) rfl (rws_win rc l) rfl ha (by decide) rfl) rfl ?_
      refine run_n (z := false) 1 (fun K' hK' => hK' _ _ _ ?_) (by decide)
      clear hK' K'
      refine run_call (p120 a t) rfl rfl rfl rfl ?_
      refine run_end (z := false) fun K' hK' => hK' _ _ _ (hK _ _ _ ?_)
      clear hK' K' hK K
      refine vc_cond rfl (fun hb => ?_) (fun hb => ?_)
      · -- cond 1 t31 true
        refine vc_go (by kernel_rfl) fun K hK => hK _ _ _ ?_
        clear hK K
        exact ⟨_, fg_focus [(0, .slice (some ⟨0, 0, none⟩) l.length c), (1, .int .i64 t), (2, .func (.func 120) #[] #[]), (6, .int .i64 0), (7, .bool false), (8, .int .i64 (l.length : Int)), (9, .int .i64 ((((i + j) / 2) + 1 : Nat) : Int)), (10, .int .i64 ((j : Nat) : Int))] [(0, .cells (rws rc l) 0 false)] 1 (by decide) ⟨rfl, rfl, rfl, rfl, rfl, rfl, ii (wrapI (by omega) (by omega)), rfl, trivial⟩ ⟨sb rfl, trivial⟩ rfl (bdH_one (by decide) (rcs_plain l)), j - (((i + j) / 2) + 1), by omega, ((i + j) / 2) + 1, j, f, rfl, by omega, hj, by omega, by rw [hat, bsr, if_pos hlt, if_pos (ltT_of ha hb)], rfl⟩
      · -- cond 1 t31 false
        refine vc_go (by kernel_rfl) fun K hK => hK _ _ _ ?_
        clear hK K
        exact ⟨_, fg_focus [(0, .slice (some ⟨0, 0, none⟩) l.length c), (1, .int .i64 t), (2, .func (.func 120) #[] #[]), (6, .int .i64 0), (7, .bool false), (8, .int .i64 (l.length : Int)), (9, .int .i64 ((i : Nat) : Int)), (10, .int .i64 ((((i + j) / 2) : Nat) : Int))] [(0, .cells (rws rc l) 0 false)] 1 (by decide) ⟨rfl, rfl, rfl, rfl, rfl, rfl, rfl, rfl, trivial⟩ ⟨sb rfl, trivial⟩ rfl (bdH_one (by decide) (rcs_plain l)), ((i + j) / 2) - i, by omega, i, ((i + j) / 2), f, rfl, by omega, by omega, by omega, by rw [hat, bsr, if_pos hlt, if_neg (by rw [ltT_of ha hb]; simp)], rfl⟩
    · -- cond 0 t17 false
      refine vc_exit ?_
      refine vc_seq ?_
      rcases Nat.lt_or_ge i l.length with hlt2 | hge2
      · obtain ⟨b, ha2⟩ : ∃ a, l[i]? = some a := ⟨l[i], List.getElem?_eq_getElem hlt2⟩
        have hge := nlt_of c0
        rw [bsr_done hge] at hat
        refine vc_reg (by kernel_rfl) fun K hK => ?_
        refine run_n (z := false) 5 (fun K' hK' => hK' _ _ _ ?_) (by decide)
        clear hK' K'
        refine vgo_known 39 (b := true) (bb (by rw [decide_eq_true_eq]; omega)) ?_
        refine run_n (z := false) 3 (fun K' hK' => hK' _ _ _ ?_) (by decide)
        clear hK' K'
        refine run_op (vex_ixs (j := i) rfl rfl rfl hlt2 rfl rfl) rfl ?_
        refine run_rd (vex_ldr rc_len (j := 0) (i := i) (d := rc b) rfl (Nat.zero_add _) rfl (rws_win rc l) rfl ha2 (by decide) rfl) rfl ?_
        refine run_n (z := false) 1 (fun K' hK' => hK' _ _ _ ?_) (by decide)
        clear hK' K'
        refine run_call (p120 b t) rfl rfl rfl rfl ?_
        refine run_end (z := false) fun K' hK' => hK' _ _ _ (hK _ _ _ ?_)
        clear hK' K' hK K
        refine vc_ret ⟨.inr rfl, ?_⟩
        rw [hat, atB_some (hat.symm ▸ ha2)]
        rfl
      · have ha2 : l[i]? = none := List.getElem?_eq_none hge2
        have hge := nlt_of c0
        rw [bsr_done hge] at hat
        refine vc_reg (by kernel_rfl) fun K hK => ?_
        refine run_n (z := false) 5 (fun K' hK' => hK' _ _ _ ?_) (by decide)
        clear hK' K'
        refine vgo_known 39 (b := false) (bb (by rw [decide_eq_false_iff_not]; omega)) ?_
        refine run_end (z := false) fun K' hK' => hK' _ _ _ (hK _ _ _ ?_)
        clear hK' K' hK K
        refine vc_ret ⟨.inr rfl, ?_⟩
        rw [hat, atB_none (hat.symm ▸ ha2)]
        rfl
end Go.Proofs.Ytdfkcijholopoaa.Vm
namespace Go.Proofs.Ytdfkcijholopoaa.Vm
open Go Go.RowKit
set_option maxRecDepth 10000
set_option linter.unusedSimpArgs false
set_option linter.unusedVariables false


theorem p92 {l : List Rn} (c : Nat) (t : Int) (hl : l.length < 2 ^ 60) : RO 92 [.slice (some ⟨0, 0, none⟩) l.length c, .int .i64 t] [(0, rws rc l)] (.tuple #[.int .i64 (atI l t : Nat), .bool (atB l t)]) := by
  have h119 := p119 (l := l) c t hl
  refine ro_of _ 1 Try.func92 rfl Try.ntmps92 (by kernel_rfl) (by simp) rfl rfl (by simp) (by simp [rcs_plain]) ?_
  refine vc_seq ?_
  refine vc_go (by kernel_rfl) fun K hK => hK _ _ _ ?_
  clear hK K
  refine vc_seq ?_
  refine vc_reg (by kernel_rfl) fun K hK => ?_
  refine run_n (z := false) 2 (fun K' hK' => hK' _ _ _ ?_) (by decide)
  clear hK' K'
  refine run_ro (fun _ => (0, 0)) (h119) ?_ rfl rfl rfl rfl ?_
  · intro x hx
    simp only [List.mem_singleton] at hx
    subst hx
    exact ⟨_, _, _, rfl, fun i v hv => by rw [Nat.zero_add]; exact hv⟩
  refine run_end (z := false) fun K' hK' => hK' _ _ _ (hK _ _ _ ?_)
  clear hK' K' hK K
  exact vc_ret ⟨.inr rfl, rfl⟩

/-- What Get says. -/
def getQ (l : List Rn) (t : Int) : Option Rn := if okq 0 l = true then (if atB l t = true then l[atI l t]? else none) else none
def z0 : Rn := ⟨0, 0, 0, 0⟩
theorem getQ_no {l : List Rn} {t : Int} (h : okq 0 l = false) : getQ l t = none := if_neg (by rw [h]; simp)
theorem getQ_none {l : List Rn} {t : Int} (h : okq 0 l = true) (hb : atB l t = false) : getQ l t = none := by rw [getQ, if_pos h, if_neg (by rw [hb]; simp)]
theorem getQ_some {l : List Rn} {t : Int} {a : Rn} (h : okq 0 l = true) (hb : atB l t = true) (ha : l[atI l t]? = some a) : getQ l t = some a := by rw [getQ, if_pos h, if_pos hb, ha]
theorem atB_get {l : List Rn} {t : Int} (h : atB l t = true) : ∃ a, l[atI l t]? = some a ∧ atI l t < l.length := by
  unfold atB at h
  cases ha : l[atI l t]? with
  | none => rw [ha] at h; cases h
  | some a => exact ⟨a, rfl, (List.getElem?_eq_some_iff.1 ha).1⟩


theorem p43a {l : List Rn} (c : Nat) (t : Int) (hl : l.length < 2 ^ 60) (hq : okq 0 l = false) : RO 43 [qv 0 l.length c, .int .i64 t] [(0, rws rc l)] (.tuple #[rv ((getQ l t).getD z0), .bool (getQ l t).isSome]) := by
  have h92 := p92 (l := l) c t hl
  have h47 := p47 l c hl
  rw [chk1_no hq] at h47
  rw [getQ_no hq]
  refine ro_of _ 1 Try.func43 rfl Try.ntmps43 (by kernel_rfl) (by simp) rfl rfl (by simp) (by simp [rcs_plain]) ?_
  refine vc_seq ?_
  refine vc_go (by kernel_rfl) fun K hK => hK _ _ _ ?_
  clear hK K
  refine vc_seq ?_
  refine vc_reg (by kernel_rfl) fun K hK => ?_
  refine run_n (z := false) 3 (fun K' hK' => hK' _ _ _ ?_) (by decide)
  clear hK' K'
  refine run_ro (fun _ => (0, 0)) (h92) ?_ rfl rfl rfl rfl ?_
  · intro x hx
    simp only [List.mem_singleton] at hx
    subst hx
    exact ⟨_, _, _, rfl, fun i v hv => by rw [Nat.zero_add]; exact hv⟩
  refine run_end (z := false) fun K' hK' => hK' _ _ _ (hK _ _ _ ?_)
  clear hK' K' hK K
  refine vc_seq ?_
  refine vc_seq ?_
  refine vc_reg (by kernel_rfl) fun K hK => ?_
  refine run_n (z := false) 1 (fun K' hK' => hK' _ _ _ ?_) (by decide)
  clear hK' K'
  refine run_ro (fun _ => (0, 0)) (h47) ?_ rfl rfl rfl rfl ?_
  · intro x hx
    simp only [List.mem_singleton] at hx
    subst hx
    exact ⟨_, _, _, rfl, fun i v hv => by rw [Nat.zero_add]; exact hv⟩
  refine run_n (z := false) 2 (fun K' hK' => hK' _ _ _ ?_) (by decide)
  clear hK' K'
  refine vgo_known 18 (b := true) (rfl) ?_
  refine run_end (z := false) fun K' hK' => hK' _ _ _ (hK _ _ _ ?_)
  clear hK' K' hK K
  refine vc_cond (t := true) rfl (fun _ => ?_) (fun h => by cases h)
  refine vc_seq ?_
  refine vc_go (by kernel_rfl) fun K hK => hK _ _ _ ?_
  clear hK K
  exact vc_ret ⟨.inr rfl, rfl⟩

theorem p43b {l : List Rn} (c : Nat) (t : Int) (hl : l.length < 2 ^ 60) (hq : okq 0 l = true) (hb : atB l t = false) : RO 43 [qv 0 l.length c, .int .i64 t] [(0, rws rc l)] (.tuple #[rv ((getQ l t).getD z0), .bool (getQ l t).isSome]) := by
  have h92 := p92 (l := l) c t hl
  have h47 := p47 l c hl
  rw [chk1_yes hq] at h47
  rw [getQ_none hq hb]
  rw [hb] at h92
  refine ro_of _ 1 Try.func43 rfl Try.ntmps43 (by kernel_rfl) (by simp) rfl rfl (by simp) (by simp [rcs_plain]) ?_
  refine vc_seq ?_
  refine vc_go (by kernel_rfl) fun K hK => hK _ _ _ ?_
  clear hK K
  refine vc_seq ?_
  refine vc_reg (by kernel_rfl) fun K hK => ?_
  refine run_n (z := false) 3 (fun K' hK' => hK' _ _ _ ?_) (by decide)
  clear hK' K'
  refine run_ro (fun _ => (0, 0)) (h92) ?_ rfl rfl rfl rfl ?_
  · intro x hx
    simp only [List.mem_singleton] at hx
    subst hx
    exact ⟨_, _, _, rfl, fun i v hv => by rw [Nat.zero_add]; exact hv⟩
  refine run_end (z := false) fun K' hK' => hK' _ _ _ (hK _ _ _ ?_)
  clear hK' K' hK K
  refine vc_seq ?_
  refine vc_seq ?_
  refine vc_reg (by kernel_rfl) fun K hK => ?_
  refine run_n (z := false) 1 (fun K' hK' => hK' _ _ _ ?_) (by decide)
  clear hK' K'
  refine run_ro (fun _ => (0, 0)) (h47) ?_ rfl rfl rfl rfl ?_
  · intro x hx
    simp only [List.mem_singleton] at hx
    subst hx
    exact ⟨_, _, _, rfl, fun i v hv => by rw [Nat.zero_add]; exact hv⟩
  refine run_n (z := false) 2 (fun K' hK' => hK' _ _ _ ?_) (by decide)
  clear hK' K'
  refine vgo_known 18 (b := false) (rfl) ?_
  refine run_end (z := false) fun K' hK' => hK' _ _ _ (hK _ _ _ ?_)
  clear hK' K' hK K
  refine vc_cond (t := true) rfl (fun _ => ?_) (fun h => by cases h)
  refine vc_seq ?_
  refine vc_go (by kernel_rfl) fun K hK => hK _ _ _ ?_
  clear hK K
  exact vc_ret ⟨.inr rfl, rfl⟩

theorem p43c {l : List Rn} (c : Nat) (t : Int) (hl : l.length < 2 ^ 60) (hq : okq 0 l = true) (hb : atB l t = true) : RO 43 [qv 0 l.length c, .int .i64 t] [(0, rws rc l)] (.tuple #[rv ((getQ l t).getD z0), .bool (getQ l t).isSome]) := by
  have h92 := p92 (l := l) c t hl
  have h47 := p47 l c hl
  rw [chk1_yes hq] at h47
  obtain ⟨a, ha, hi⟩ := atB_get hb
  rw [getQ_some hq hb ha]
  rw [hb] at h92
  refine ro_of _ 1 Try.func43 rfl Try.ntmps43 (by kernel_rfl) (by simp) rfl rfl (by simp) (by simp [rcs_plain]) ?_
  refine vc_seq ?_
  refine vc_go (by kernel_rfl) fun K hK => hK _ _ _ ?_
  clear hK K
  refine vc_seq ?_
  refine vc_reg (by kernel_rfl) fun K hK => ?_
  refine run_n (z := false) 3 (fun K' hK' => hK' _ _ _ ?_) (by decide)
  clear hK' K'
  refine run_ro (fun _ => (0, 0)) (h92) ?_ rfl rfl rfl rfl ?_
  · intro x hx
    simp only [List.mem_singleton] at hx
    subst hx
    exact ⟨_, _, _, rfl, fun i v hv => by rw [Nat.zero_add]; exact hv⟩
  refine run_end (z := false) fun K' hK' => hK' _ _ _ (hK _ _ _ ?_)
  clear hK' K' hK K
  refine vc_seq ?_
  refine vc_seq ?_
  refine vc_reg (by kernel_rfl) fun K hK => ?_
  refine run_n (z := false) 1 (fun K' hK' => hK' _ _ _ ?_) (by decide)
  clear hK' K'
  refine run_ro (fun _ => (0, 0)) (h47) ?_ rfl rfl rfl rfl ?_
  · intro x hx
    simp only [List.mem_singleton] at hx
    subst hx
    exact ⟨_, _, _, rfl, fun i v hv => by rw [Nat.zero_add]; exact hv⟩
  refine run_n (z := false) 2 (fun K' hK' => hK' _ _ _ ?_) (by decide)
  clear hK' K'
  refine vgo_known 18 (b := false) (rfl) ?_
  refine run_end (z := false) fun K' hK' => hK' _ _ _ (hK _ _ _ ?_)
  clear hK' K' hK K
  refine vc_cond (t := false) rfl (fun h => by cases h) (fun _ => ?_)
  refine vc_skip ?_
  refine vc_seq ?_
  refine vc_reg (by kernel_rfl) fun K hK => ?_
  refine run_n (z := false) 3 (fun K' hK' => hK' _ _ _ ?_) (by decide)
  clear hK' K'
  refine run_op (vex_ixs (j := atI l t) rfl rfl rfl hi rfl rfl) rfl ?_
  refine run_rd (vex_ldr rc_len (j := 0) (i := atI l t) (d := rc a) rfl (Nat.zero_add _) rfl (rws_win rc l) rfl ha (by decide) rfl) rfl ?_
  refine run_end (z := false) fun K' hK' => hK' _ _ _ (hK _ _ _ ?_)
  clear hK' K' hK K
  exact vc_ret ⟨.inr rfl, rfl⟩

theorem p43 (l : List Rn) (c : Nat) (t : Int) (hl : l.length < 2 ^ 60) : RO 43 [qv 0 l.length c, .int .i64 t] [(0, rws rc l)] (.tuple #[rv ((getQ l t).getD z0), .bool (getQ l t).isSome]) := by
  cases hq : okq 0 l
  · exact p43a c t hl hq
  · cases hb : atB l t
    · exact p43b c t hl hq hb
    · exact p43c c t hl hq hb


theorem rn_beq (a b : Rn) : ((a.id == b.id) && (a.each == b.each) && ((((a.n / 2 ^ 64 : Nat) : Int) == ((b.n / 2 ^ 64 : Nat) : Int)) && (((a.n % 2 ^ 64 : Nat) : Int) == ((b.n % 2 ^ 64 : Nat) : Int)) && ((a.w : Int) == (b.w : Int)))) = decide (a = b) := by
  rw [Bool.eq_iff_iff]
  simp only [Bool.and_eq_true, beq_iff_eq, decide_eq_true_eq]
  constructor
  · rintro ⟨⟨h1, h2⟩, ⟨h3, h4⟩, h5⟩
    obtain ⟨i, e, n, w⟩ := a
    obtain ⟨i', e', n', w'⟩ := b
    simp only at *
    have : n = n' := by omega
    have : w = w' := by omega
    subst_vars
    rfl
  · rintro rfl
    simp
theorem take_ne {la lb : List Rn} {i : Nat} {a b : Rn} (ha : la[i]? = some a) (hb : lb[i]? = some b) (h : (!decide (a = b)) = true) : la ≠ lb := by
  rintro rfl
  rw [ha] at hb
  cases hb
  simp at h
theorem take_eq_step {la lb : List Rn} {i : Nat} {a b : Rn} (ha : la[i]? = some a) (hb : lb[i]? = some b) (h : (!decide (a = b)) = false) (ht : la.take i = lb.take i) : la.take (i + 1) = lb.take (i + 1) := by
  have : a = b := by simpa using h
  rw [List.take_add_one, List.take_add_one, ha, hb, ht, this]


theorem p94y {la lb : List Rn} (ca cb : Nat) (hl : la.length < 2 ^ 60) (hlen : la.length = lb.length) : RO 94 [.slice (some ⟨0, 0, none⟩) la.length ca, .slice (some ⟨1, 0, none⟩) lb.length cb] [(0, rws rc la), (1, rws rc lb)] (.bool (decide (la = lb))) := by
  refine ro_of _ 2 Try.func94 rfl Try.ntmps94 (by kernel_rfl) (by simp) rfl rfl (by simp) (by simp [rcs_plain]) ?_
  refine vc_seq ?_
  refine vc_go (by kernel_rfl) fun K hK => hK _ _ _ ?_
  clear hK K
  refine vc_seq ?_
  refine vc_seq ?_
  refine vc_go (by kernel_rfl) fun K hK => hK _ _ _ ?_
  clear hK K
  refine vc_cond (t := false) (bb (by rw [hlen]; simp)) (fun h => by cases h) (fun _ => ?_)
  refine vc_skip ?_
  refine vc_seq ?_
  refine vc_seq ?_
  refine vc_go (by kernel_rfl) fun K hK => hK _ _ _ ?_
  clear hK K
  refine vc_block ?_
  refine vc_loopF (fun n s => ∃ i : Nat, n = la.length - i ∧ i ≤ la.length ∧ la.take i = lb.take i ∧ s = can [(0, .slice (some ⟨0, 0, none⟩) la.length ca), (1, .slice (some ⟨1, 0, none⟩) lb.length cb), (4, .bool false), (11, .slice (some ⟨0, 0, none⟩) la.length ca), (12, .int .i64 (la.length : Int)), (13, .int .i64 ((i : Nat) : Int))] [(0, .cells (rws rc la) 0 false), (1, .cells (rws rc lb) 0 false)] 2) la.length ?_ ?_
  · exact ⟨_, fg_focus [(0, .slice (some ⟨0, 0, none⟩) la.length ca), (1, .slice (some ⟨1, 0, none⟩) lb.length cb), (4, .bool false), (11, .slice (some ⟨0, 0, none⟩) la.length ca), (12, .int .i64 (la.length : Int)), (13, .int .i64 ((0 : Nat) : Int))] [(0, .cells (rws rc la) 0 false), (1, .cells (rws rc lb) 0 false)] 2 (by decide) ⟨rfl, rfl, rfl, rfl, rfl, rfl, trivial⟩ ⟨sb rfl, sb rfl, trivial⟩ rfl (by simp [bdH, bdB, bdL_plain, rcs_plain]), 0, rfl, Nat.zero_le _, rfl, rfl⟩
  · rintro n s ⟨i, hn, hi, heq, rfl⟩
    refine vc_seq ?_
    refine vc_go (by kernel_rfl) fun K hK => hK _ _ _ ?_
    clear hK K
    refine vc_seq ?_
    refine vc_cond rfl (fun c0 => ?_) (fun c0 => ?_)
    · -- cond 1 t14 true
      refine vc_skip ?_
      refine vc_seq ?_
      refine vc_block ?_
      refine vc_seq ?_
      have hlt := len_le c0
      obtain ⟨a, ha⟩ : ∃ a, la[i]? = some a := ⟨la[i], List.getElem?_eq_getElem hlt⟩
      have hltb : i < lb.length := by omega
      obtain ⟨b, hb⟩ : ∃ b, lb[i]? = some b := ⟨lb[i], List.getElem?_eq_getElem hltb⟩
      refine vc_go (by kernel_rfl) fun K hK => hK _ _ _ ?_
      clear hK K
      refine vc_seq ?_
      refine vc_regD [] (by kernel_rfl) (by kernel_rfl) fun K hK => ?_
      refine runD_n (z := false) 2 (fun K' hK' => hK' _ _ _ _ ?_) (by decide)
      clear hK' K'
      refine runD_op (vex_ixs (j := i) rfl rfl rfl hlt rfl rfl) rfl ?_
      refine runD_rd (vex_ldr rc_len (j := 0) (i := i) (d := rc a) rfl (Nat.zero_add _) rfl (rws_win rc la) rfl ha (by decide) rfl) rfl rfl ?_
      refine runD_n (z := false) 2 (fun K' hK' => hK' _ _ _ _ ?_) (by decide)
      clear hK' K'
      refine runD_op (vex_ixs (j := i) rfl rfl rfl hltb rfl rfl) rfl ?_
      refine runD_rd (vex_ldr rc_len (j := 0) (i := i) (d := rc b) rfl (Nat.zero_add _) rfl (rws_win rc lb) rfl hb (by decide) rfl) rfl rfl ?_
      refine runD_end (z := false) fun K' hK' => hK' _ _ _ _ (hK _ _ _ ?_)
      clear hK' K' hK K
      refine vc_cond rfl (fun hx => ?_) (fun hx => ?_)
      · -- cond 2 t24 true
        refine vc_seq ?_
        refine vc_go (by kernel_rfl) fun K hK => hK _ _ _ ?_
        clear hK K
        refine vc_ret ⟨.inr rfl, ?_⟩
        have hne : la ≠ lb := take_ne ha hb (by rw [rn_beq] at hx; exact hx)
        exact fin_bb (by simp [hne])
      · -- cond 2 t24 false
        refine vc_skip ?_
        refine vc_go (by kernel_rfl) fun K hK => hK _ _ _ ?_
        clear hK K
        exact ⟨_, fg_focus [(0, .slice (some ⟨0, 0, none⟩) la.length ca), (1, .slice (some ⟨1, 0, none⟩) lb.length cb), (4, .bool false), (11, .slice (some ⟨0, 0, none⟩) la.length ca), (12, .int .i64 (la.length : Int)), (13, .int .i64 ((i + 1 : Nat) : Int))] [(0, .cells (rws rc la) 0 false), (1, .cells (rws rc lb) 0 false)] 2 (by decide) ⟨rfl, rfl, rfl, rfl, rfl, ii (wrapI (by omega) (by omega)), trivial⟩ ⟨sb rfl, sb rfl, trivial⟩ rfl (by simp [bdH, bdB, bdL_plain, rcs_plain]), la.length - (i + 1), by omega, i + 1, rfl, hlt, take_eq_step ha hb (by rw [rn_beq] at hx; exact hx) heq, rfl⟩
    · -- cond 1 t14 false
      refine vc_exit ?_
      refine vc_seq ?_
      refine vc_go (by kernel_rfl) fun K hK => hK _ _ _ ?_
      clear hK K
      refine vc_ret ⟨.inr rfl, ?_⟩
      have hge := len_ge c0
      rw [List.take_of_length_le hge, List.take_of_length_le (by omega)] at heq
      exact fin_bb (by simp [heq])

theorem p94n {la lb : List Rn} (ca cb : Nat) (hl : la.length < 2 ^ 60) (hlen : la.length ≠ lb.length) : RO 94 [.slice (some ⟨0, 0, none⟩) la.length ca, .slice (some ⟨1, 0, none⟩) lb.length cb] [(0, rws rc la), (1, rws rc lb)] (.bool (decide (la = lb))) := by
  have hne : la ≠ lb := fun e => hlen (by rw [e])
  rw [decide_eq_false hne]
  refine ro_of _ 2 Try.func94 rfl Try.ntmps94 (by kernel_rfl) (by simp) rfl rfl (by simp) (by simp [rcs_plain]) ?_
  refine vc_seq ?_
  refine vc_go (by kernel_rfl) fun K hK => hK _ _ _ ?_
  clear hK K
  refine vc_seq ?_
  refine vc_seq ?_
  refine vc_go (by kernel_rfl) fun K hK => hK _ _ _ ?_
  clear hK K
  refine vc_cond (t := true) (bb (by rw [bne_iff_ne]; omega)) (fun _ => ?_) (fun h => by cases h)
  refine vc_seq ?_
  refine vc_go (by kernel_rfl) fun K hK => hK _ _ _ ?_
  clear hK K
  exact vc_ret ⟨.inr rfl, rfl⟩

theorem p94 (la lb : List Rn) (ca cb : Nat) (hl : la.length < 2 ^ 60) : RO 94 [.slice (some ⟨0, 0, none⟩) la.length ca, .slice (some ⟨1, 0, none⟩) lb.length cb] [(0, rws rc la), (1, rws rc lb)] (.bool (decide (la = lb))) := by
  by_cases h : la.length = lb.length
  · exact p94y ca cb hl h
  · exact p94n ca cb hl h


theorem p45 (la lb : List Rn) (ca cb : Nat) (hl : la.length < 2 ^ 60) : RO 45 [qv 0 la.length ca, qv 1 lb.length cb] [(0, rws rc la), (1, rws rc lb)] (.bool (decide (la = lb))) := by
  have h94 := p94 la lb ca cb hl
  refine ro_of _ 2 Try.func45 rfl Try.ntmps45 (by kernel_rfl) (by simp) rfl rfl (by simp) (by simp [rcs_plain]) ?_
  refine vc_seq ?_
  refine vc_go (by kernel_rfl) fun K hK => hK _ _ _ ?_
  clear hK K
  refine vc_seq ?_
  refine vc_reg (by kernel_rfl) fun K hK => ?_
  refine run_n (z := false) 4 (fun K' hK' => hK' _ _ _ ?_) (by decide)
  clear hK' K'
  refine run_ro (fun k => (k, 0)) h94 ?_ rfl rfl rfl rfl ?_
  · intro x hx
    simp only [List.mem_cons, List.mem_singleton, List.not_mem_nil, or_false] at hx
    rcases hx with rfl | rfl
    · exact ⟨_, _, _, rfl, fun i v hv => by rw [Nat.zero_add]; exact hv⟩
    · exact ⟨_, _, _, rfl, fun i v hv => by rw [Nat.zero_add]; exact hv⟩
  refine run_end (z := false) fun K' hK' => hK' _ _ _ (hK _ _ _ ?_)
  clear hK' K' hK K
  exact vc_ret ⟨.inr rfl, rfl⟩
end Go.Proofs.Ytdfkcijholopoaa.Vm
namespace Go.Proofs.Ytdfkcijholopoaa.Vm
open Go Go.RowKit
set_option linter.unusedSimpArgs false

theorem renB_p {F : Nat → Nat × Nat} {c : List Value} {t : TypeId} {o : Bool} (h : plainL c = true) : renB F (.cells c t o) = .cells c t o := by simp only [renB, renL_plain F h]
theorem renU_nil {F : Nat → Nat × Nat} : renU F [] = [] := rfl
theorem renU_c {F : Nat → Nat × Nat} {k : Nat} {b b' : Blk} {u u' : List (Nat × Blk)} (h : renB F b = b') (hu : renU F u = u') : renU F ((k, b) :: u) = ((F k).1, b') :: u' := by rw [renU, h, hu]
def SbU (s : St) (F : Nat → Nat × Nat) (k : Nat) (b : Blk) : Prop := ∃ b1, s.h (F k).1 = some b1 ∧ SubB F 0 b b1 ∧ b1.own = true
def HasU (s : St) (F : Nat → Nat × Nat) : List (Nat × Blk) → Prop
  | [] => True
  | (k, b) :: u => SbU s F k b ∧ HasU s F u
theorem HasU.mem {s : St} {F : Nat → Nat × Nat} : ∀ {u : List (Nat × Blk)}, HasU s F u → ∀ x ∈ u, SbU s F x.1 x.2
  | [], _, x, hx => by cases hx
  | y :: u, h, x, hx => by
    rcases List.mem_cons.1 hx with rfl | hx
    · exact h.1
    · exact h.2.mem x hx
/-- The names of u fit: the new one, or inputs that may be written; each once; all of these. -/
def namesOk (n : Nat) (hp : List (Nat × Bool)) (u : List Nat) : Bool :=
  (u.all fun k => decide (k = n) || (decide (k < n) && hp.any fun y => decide (y.1 = k) && y.2)) && (decide u.Nodup && hp.all fun y => !y.2 || u.contains y.1)
theorem res_of {n : Nat} {hp : List (Nat × Blk)} {rs : List ResultVar} {Out : Value → List (Nat × Blk) → Prop} {s : St} (j : Nat) (v : Value) (u : List (Nat × Blk)) (hO : Out v u) (hj : n ≤ j) (hv : vresult s rs = some (renV (toF (fun k => (k, 0)) n j) v)) (hb : bdV (n + 1) v = true)
    (hu : HasU s (toF (fun k => (k, 0)) n j) u) (hbu : bdH (n + 1) u = true) (hn : namesOk n (hp.map fun x => (x.1, x.2.own)) (u.map (·.1)) = true) (hor : n ∈ u.map (·.1) ∨ s.n ≤ j) : Res n hp rs Out s := by
  simp only [namesOk, Bool.and_eq_true, List.all_eq_true, Bool.or_eq_true, decide_eq_true_eq, List.any_eq_true, Bool.not_eq_true', List.contains_eq_mem] at hn
  obtain ⟨h1, h2, h3⟩ := hn
  refine ⟨j, v, u, hO, hj, hv, hb, fun x hx => ⟨hu.mem x hx, (bdH_mem hbu x hx).2, ?_⟩, h2, fun x hx ho => ?_, hor⟩
  · rcases h1 x.1 (List.mem_map.2 ⟨x, hx, rfl⟩) with e | ⟨e, y, hy, e1, e2⟩
    · exact .inl e
    · obtain ⟨z, hz, rfl⟩ := List.mem_map.1 hy
      exact .inr ⟨e, z, hz, e1, e2⟩
  · rcases h3 (x.1, x.2.own) (List.mem_map.2 ⟨x, hx, rfl⟩) with e | e
    · simp only [ho] at e; cases e
    · exact e
/-- Plain cells. -/
theorem sbu {s : St} {F : Nat → Nat × Nat} {k : Nat} {c : List Value} {t : TypeId} (hp : plainL c = true) (e : s.h (F k).1 = some (.cells c t true)) : SbU s F k (.cells c t true) := ⟨_, e, ⟨rfl, rfl, rfl, (renL_plain F hp).symm⟩, rfl⟩
theorem sbu' {s : St} {F : Nat → Nat × Nat} {k : Nat} {c : List Value} {t : TypeId} (e : s.h (F k).1 = some (.cells (renL F c) t true)) : SbU s F k (.cells c t true) := ⟨_, e, ⟨rfl, rfl, rfl, rfl⟩, rfl⟩
theorem sbu_win {s : St} {F : Nat → Nat × Nat} {k : Nat} {c c1 : List Value} {t t1 : TypeId} (hp : plainL c = true) (e : s.h (F k).1 = some (.cells c1 t1 true)) (hw : ∀ (i : Nat) (v : Value), c[i]? = some v → c1[i]? = some v) : SbU s F k (.cells c t false) :=
  ⟨_, e, fun i v hv => by rw [renV_plain F v ((plainL_iff c).1 hp v (List.mem_of_getElem? hv)), Nat.zero_add]; exact hw i v hv, rfl⟩
/-- Nothing written, a plain result. -/
theorem res_plain {n : Nat} {hp : List (Nat × Blk)} {rs : List ResultVar} {Out : Value → List (Nat × Blk) → Prop} {s : St} {v : Value} (hO : Out v []) (hv : vresult s rs = some v) (hpl : plain v = true) (hn : namesOk n (hp.map fun x => (x.1, x.2.own)) [] = true) : Res n hp rs Out s :=
  res_of (max n s.n) v [] hO (Nat.le_max_left _ _) (by rw [renV_plain _ v hpl]; exact hv) (bdV_plain _ v hpl) trivial rfl hn (.inr (Nat.le_max_right _ _))
def coversB (n : Nat) (hp : List Nat) : Bool := (List.range n).all fun k => hp.contains k
theorem hall_of {n : Nat} {hp : List (Nat × Blk)} (h : coversB n (hp.map (·.1)) = true) : ∀ k, k < n → ∃ x ∈ hp, x.1 = k := by
  intro k hk
  have := List.all_eq_true.1 h k (by simpa using hk)
  simp only [List.contains_eq_mem, decide_eq_true_eq] at this
  obtain ⟨x, h1, h2⟩ := List.mem_map.1 this
  exact ⟨x, h1, h2⟩

theorem zrow_plain {z : List Value} (hz : plainL z = true) : ∀ n, plainL (zrow n z) = true
  | 0 => rfl
  | n + 1 => by
    rw [plainL_iff]
    intro v hv
    rcases List.mem_append.1 hv with hv | hv
    · exact (plainL_iff z).1 hz v hv
    · exact (plainL_iff _).1 (zrow_plain hz n) v hv
theorem plainL_append {a b : List Value} (ha : plainL a = true) (hb : plainL b = true) : plainL (a ++ b) = true := by
  rw [plainL_iff] at *
  intro v hv
  rcases List.mem_append.1 hv with hv | hv
  · exact ha v hv
  · exact hb v hv
theorem zrow_len (z : List Value) : ∀ n, (zrow n z).length = n * z.length
  | 0 => by simp [zrow]
  | n + 1 => by simp [zrow, zrow_len z n, Nat.succ_mul, Nat.add_comm]

/-- append onto a slice that holds nothing and has no room. -/
theorem sp_append_new {o : Oper} {m : Nat} {ev : Operand → Value} {h : Nat → Option Blk} {x y : Operand} {t tx e : Nat} {z : List Value} {rd0 : List Nat} {n c : Nat} {news : List Value} {rd : List Nat}
    (ho : o.op = .call { callee := .builtin .append, args := #[x, y], argTypes := #[t, tx] }) (ht : Vm.sl t = some e) (htx : Vm.sl tx = some e) (he : ElOk e z)
    (hx : Seg h z.length (ev x) 0 0 [] rd0) (hy : Seg h z.length (ev y) n c news rd) (hone : news.all (·.oneCell') = true) (hroom : 0 < n) (hsm : n ≤ 100000) :
    SpOk o m ev h (rd0 ++ rd) (fun v u => ∃ cap, n ≤ cap ∧ v = .slice (some ⟨m, 0, none⟩) n cap ∧ u = [(m, .cells (news ++ zrow (cap - n) z) e true)]) := by
  have h1 := sp_append_grow (m := m) ho ht htx he hx hy hone (by omega) (by omega)
  rw [Nat.zero_add] at h1
  exact h1
theorem bdH_c {K k : Nat} {c : List Value} {t : TypeId} {own : Bool} {l : List (Nat × Blk)} (hk : k < K) (hp : plainL c = true) (hl : bdH K l = true) : bdH K ((k, .cells c t own) :: l) = true := by
  simp [bdH, bdB, hk, bdL_plain K hp, hl]
section
variable {ev : Operand → Value} {h : Nat → Option Blk}
/-- s[:j], s at its block's head. -/
theorem vex_cut {t e : Nat} {x hi : Operand} {m len cap j : Nat} {k : IntKind} {i : Int} {ag : Bool} {z : List Value} (hx : ev x = .slice (some ⟨m, 0, none⟩) len cap) (hh : ev hi = .int k i) (hij : i = j) (hj : j ≤ cap) (ht : sl t = some e) (hz : ty e = some (ag, z)) :
    vex ev h (.slice t x none (some hi) none) = some (.val (.slice (some ⟨m, 0, none⟩) j cap)) := by
  subst hij
  simp only [vex, hx, ht, hz, Option.map_none, Option.map_some, hh, sbounds, Option.bind_some]
  rw [if_pos ⟨by omega, by omega⟩]
  simp only [Option.bind_some, Option.map_some, Int.toNat_natCast, Nat.sub_zero, Nat.zero_mul, Nat.zero_add]
  split <;> rfl
/-- s[i:], i below the capacity's end. -/
theorem vex_tail {t e : Nat} {x lo : Operand} {m len cap j : Nat} {k : IntKind} {i : Int} {ag : Bool} {z : List Value} (hx : ev x = .slice (some ⟨m, 0, none⟩) len cap) (hh : ev lo = .int k i) (hij : i = j) (hj : j ≤ len) (ht : sl t = some e) (hz : ty e = some (ag, z)) :
    vex ev h (.slice t x (some lo) none none) = some (.val (.slice (if cap = j then some ⟨m, 0, none⟩ else some ⟨m, j * z.length, none⟩) (len - j) (cap - j))) := by
  subst hij
  simp only [vex, hx, ht, hz, Option.map_none, Option.map_some, hh, sbounds, Option.bind_some]
  rw [if_pos ⟨by omega, by omega⟩]
  simp only [Option.bind_some, Option.map_some, Int.toNat_natCast, Nat.zero_add]
end
end Go.Proofs.Ytdfkcijholopoaa.Vm
namespace Go.Proofs.Ytdfkcijholopoaa.Vm
open Go Go.RowKit
set_option maxRecDepth 10000
set_option linter.unusedSimpArgs false
set_option linter.unusedVariables false


theorem spare_plain (l : List Rn) (k : Nat) : plainL (rws rc l ++ zrow k z5) = true := plainL_append (rcs_plain l) (zrow_plain rfl k)
theorem nil_of {α : Type} {l : List α} (h : l.length = 0) : l = [] := List.eq_nil_of_length_eq_zero h
theorem seg_len0 {h : Nat → Option Blk} {sz m k n c : Nat} (hn : n = 0) : Seg h sz (.slice (some ⟨m, k, none⟩) n c) 0 c [] [] := by subst hn; exact .emp


theorem p86 {l : List Rn} (c : Nat) (hl : l.length ≤ 1000) : FC 86 [qv 0 l.length c] 1 [(0, .cells (rws rc l) 0 false)] (fun v u => ∃ c2, l.length ≤ c2 ∧ v = qv 1 l.length c2 ∧ u = [(1, .cells (rws rc l ++ zrow (c2 - l.length) z5) 67 true)]) := by
  refine fc_of [(0, .cells (rws rc l) 0 false)] 1 Try.func86 rfl Try.ntmps86 (by kernel_rfl) (by simp) rfl (by simp [bdH, bdB, bdL_plain, rcs_plain]) (hall_of rfl) ?_
  refine vc_seq ?_
  refine vc_go (by kernel_rfl) fun K hK => hK _ _ _ ?_
  clear hK K
  refine vc_seq ?_
  rcases Nat.eq_zero_or_pos l.length with h0 | h0
  · skip
    refine vc_reg (by kernel_rfl) fun K hK => ?_
    refine run_n (z := false) 3 (fun K' hK' => hK' _ _ _ ?_) (by decide)
    clear hK' K'
    refine run_sp (sp_append_none (z := z5) rfl rfl rfl el67 rfl (Nat.le_refl 0) (seg_len0 h0)) rfl rfl rfl ⟨_, _, rfl, rfl⟩ ?_
    rintro _ _ ⟨rfl, rfl⟩
    refine run_end (z := false) fun K' hK' => hK' _ _ _ (hK _ _ _ ?_)
    clear hK' K' hK K
    refine vc_ret ⟨.inr rfl, ?_⟩
    have hl0 := nil_of h0
    subst hl0
    refine res_of 3 _ _ ⟨0, Nat.le_refl _, rfl, rfl⟩ (by decide) rfl rfl ⟨sbu (by rfl) rfl, trivial⟩ rfl rfl (.inl (by simp))
  · skip
    refine vc_reg (by kernel_rfl) fun K hK => ?_
    refine run_n (z := false) 3 (fun K' hK' => hK' _ _ _ ?_) (by decide)
    clear hK' K'
    refine run_sp (sp_append_new (z := z5) rfl rfl rfl el67 .emp (.cells (own := false) (t := 0) rfl (rws_len rc_len l) (fun i v hv => by rw [Nat.zero_add]; exact hv)) (rws_one rc_one l) h0 (by omega)) rfl rfl rfl ⟨_, _, _, Nat.le_refl _, rfl, rfl⟩ ?_
    rintro _ _ ⟨c2, hc2, rfl, rfl⟩
    refine run_end (z := false) fun K' hK' => hK' _ _ _ (hK _ _ _ ?_)
    clear hK' K' hK K
    refine vc_ret ⟨.inr rfl, ?_⟩
    refine res_of 6 _ _ ⟨c2, hc2, rfl, rfl⟩ (by decide) rfl rfl ⟨sbu (spare_plain l _) rfl, trivial⟩ (by simp [bdH, bdB, bdL_plain, spare_plain]) rfl (.inl (by simp))

theorem p118 {l : List Rn} (c : Nat) (hl : l.length ≤ 1000) : FC 118 [.slice (some ⟨0, 0, none⟩) l.length c] 1 [(0, .cells (rws rc l) 0 false)] (fun v u => ∃ c2, l.length ≤ c2 ∧ v = .slice (some ⟨1, 0, none⟩) l.length c2 ∧ u = [(1, .cells (rws rc l ++ zrow (c2 - l.length) z5) 67 true)]) := by
  refine fc_of [(0, .cells (rws rc l) 0 false)] 1 Try.func118 rfl Try.ntmps118 (by kernel_rfl) (by simp) rfl (by simp [bdH, bdB, bdL_plain, rcs_plain]) (hall_of rfl) ?_
  refine vc_seq ?_
  refine vc_go (by kernel_rfl) fun K hK => hK _ _ _ ?_
  clear hK K
  refine vc_seq ?_
  refine vc_seq ?_
  refine vc_go (by kernel_rfl) fun K hK => hK _ _ _ ?_
  clear hK K
  refine vc_cond (t := false) rfl (fun h => by cases h) (fun _ => ?_)
  refine vc_skip ?_
  refine vc_seq ?_
  rcases Nat.eq_zero_or_pos l.length with h0 | h0
  · skip
    refine vc_reg (by kernel_rfl) fun K hK => ?_
    refine run_n (z := false) 2 (fun K' hK' => hK' _ _ _ ?_) (by decide)
    clear hK' K'
    refine run_sp (sp_append_none (z := z5) rfl rfl rfl el67 rfl (Nat.le_refl 0) (seg_len0 h0)) rfl rfl rfl ⟨_, _, rfl, rfl⟩ ?_
    rintro _ _ ⟨rfl, rfl⟩
    refine run_end (z := false) fun K' hK' => hK' _ _ _ (hK _ _ _ ?_)
    clear hK' K' hK K
    refine vc_ret ⟨.inr rfl, ?_⟩
    have hl0 := nil_of h0
    subst hl0
    refine res_of 1 _ _ ⟨0, Nat.le_refl _, rfl, rfl⟩ (by decide) rfl rfl ⟨sbu (by rfl) rfl, trivial⟩ rfl rfl (.inl (by simp))
  · skip
    refine vc_reg (by kernel_rfl) fun K hK => ?_
    refine run_n (z := false) 2 (fun K' hK' => hK' _ _ _ ?_) (by decide)
    clear hK' K'
    refine run_sp (sp_append_new (z := z5) rfl rfl rfl el67 .emp (.cells (own := false) (t := 0) rfl (rws_len rc_len l) (fun i v hv => by rw [Nat.zero_add]; exact hv)) (rws_one rc_one l) h0 (by omega)) rfl rfl rfl ⟨_, _, _, Nat.le_refl _, rfl, rfl⟩ ?_
    rintro _ _ ⟨c2, hc2, rfl, rfl⟩
    refine run_end (z := false) fun K' hK' => hK' _ _ _ (hK _ _ _ ?_)
    clear hK' K' hK K
    refine vc_ret ⟨.inr rfl, ?_⟩
    refine res_of 3 _ _ ⟨c2, hc2, rfl, rfl⟩ (by decide) rfl rfl ⟨sbu (spare_plain l _) rfl, trivial⟩ (by simp [bdH, bdB, bdL_plain, spare_plain]) rfl (.inl (by simp))
end Go.Proofs.Ytdfkcijholopoaa.Vm
namespace Go.Proofs.Ytdfkcijholopoaa.Vm
open Go Go.RowKit
set_option linter.unusedSimpArgs false

theorem run_copy_at {P : Program} (w : World) (dT sT ty elem : TypeId) (g o dLen dCap : Nat) (src : Value) (sn cnt size : Nat) (cur : Array Value) (t : TypeId) (cs : List Value)
    (hu : P.underlying dT = some (.slice elem)) (hs : (sizeOf elem).run P w = .ok size w) (hlen : (Builtin.lenOf src).run P w = .ok sn w) (hcnt : cnt = Nat.min sn dLen)
    (hf : (Builtin.firstCells size cnt src).run P w = .ok cs.toArray w)
    (hg : w.heap[g]? = some (.cells cur t (0, 0))) (hfit : o + cs.length ≤ cur.size) (h1 : ∀ v ∈ cs, v.oneCell' = true) :
    (Builtin.copy_ #[dT, sT] ty #[.slice (some ⟨g, o, none⟩) dLen dCap, src]).run P w =
      .ok (goInt cnt) (w.setRow g (cur.toList.take o ++ cs ++ cur.toList.drop (o + cs.length)).toArray) := by
  subst hcnt
  have hst := run_storeCells_at P g o t cs 0 cur w hg (by simpa using hfit) h1
  simp only [Nat.add_zero] at hst
  simp [Builtin.copy_, run_underlying hu, hlen, hs, hf, hst]

theorem copy_exec {o : Oper} {x y : Operand} {t tx : TypeId} {e : Operand → Value} (ho : o.op = .call { callee := .builtin .copy, args := #[x, y], argTypes := #[t, tx] }) {w w' : World} {v : Value}
    (h : (Builtin.copy_ #[t, tx] o.type #[e x, e y]).run P w = .ok v w') : (execOp e o).run P w = .ok (.value v) w' := by
  simp only [execOp, ho, resolve, invoke, builtin, Sem.run_bind, Sem.run_pure, Result.andThen_ok, List.map_toArray, List.map_cons, List.map_nil, h]

theorem firstCells_len {sz n : Nat} {a : Option Addr} {l l' c : Nat} : Builtin.firstCells sz n (.slice a l c) = Builtin.firstCells sz n (.slice a l' c) := by cases a <;> rfl

theorem sp_copy {o : Oper} {m : Nat} {ev : Operand → Value} {h : Nat → Option Blk} {x y : Operand} {t tx e : Nat} {z : List Value} {ag : Bool} {b k dn dc sn sc cnt : Nat} {a : Option Addr} {cb : List Value} {te : TypeId} {news : List Value} {rd : List Nat}
    (ho : o.op = .call { callee := .builtin .copy, args := #[x, y], argTypes := #[t, tx] }) (ht : Vm.sl t = some e) (hz : ty e = some (ag, z))
    (hx : ev x = .slice (some ⟨b, k, none⟩) dn dc) (hb : h b = some (.cells cb te true)) (hy : ev y = .slice a sn sc) (hs : Seg h z.length (.slice a cnt sc) cnt sc news rd) (hcnt : cnt = Nat.min sn dn) (hone : news.all (·.oneCell') = true) (hfit : k + news.length ≤ cb.length) :
    SpOk o m ev h (b :: rd) (fun v u => v = .int .i64 cnt ∧ u = [(b, .cells (cb.take k ++ news ++ cb.drop (k + news.length)) te true)]) := by
  intro M ρ h' w ac hh hev hH _
  have hx1 := hev x (by rw [ho]; simp [Op.operands, Call.operands])
  have hy1 := hev y (by rw [ho]; simp [Op.operands, Call.operands])
  rw [hx] at hx1
  rw [hy] at hy1
  obtain ⟨r, of, q1, q2⟩ := hx1.slice_inv
  have hb' : h' b = some (.cells cb te true) := (hh b (by simp)).trans hb
  obtain ⟨r', of', q3, ⟨cur, q4, rfl, q5⟩, q6⟩ := hH.blk b _ hb'
  rw [q1] at q3
  cases q3
  rw [Nat.zero_add] at q2
  -- the source
  have hrel : ∃ a', ac.eval y = .slice a' sn sc ∧ Rel ρ (.slice a cnt sc) (.slice a' cnt sc) := by
    cases a with
    | none =>
      have := hy1.eq_of_plain rfl
      exact ⟨none, this, .plain rfl⟩
    | some a =>
      generalize ac.eval y = u at hy1
      cases hy1 with
      | plain hp => simp [plain] at hp
      | slice hr => exact ⟨_, rfl, .slice hr⟩
      | wild =>
        have : cnt = 0 := by rw [hcnt]; exact Nat.eq_zero_of_le_zero (Nat.min_le_left _ _)
        subst this
        exact ⟨_, rfl, .wild⟩
  obtain ⟨a', q7, q8⟩ := hrel
  obtain ⟨b2, l', q9, e1, e2, e3⟩ := (hs.local (h' := h') fun j hj => hh j (by simp [hj])).real hH q8
  have hfc : (Builtin.firstCells z.length cnt (.slice a' sn sc)).run P w = .ok l'.toArray w := by
    rw [firstCells_len (l' := cnt)]
    exact e3 w rfl
  have hrun := run_copy_at (P := P) w t tx o.type e r k dn dc (.slice a' sn sc) sn cnt z.length cur te l' (sl_ok ht) ((ty_ok hz).size w) rfl hcnt hfc q4 (by rw [← e1.1]; have := q5.1; simp at this; omega) (e1.all_oneCell hone)
  rw [← q2, ← q7] at hrun
  unfold Oper.wp
  rw [copy_exec ho hrun]
  refine ⟨_, _, _, ρ, ⟨rfl, rfl⟩, rfl, Ext.refl _, .plain rfl, ?_, Kept.setRow (q6 rfl) _, fun x hx => (by simp at hx; exact .inr (by rw [hx, q1]; simp)), fun k hk _ => hk⟩
  exact hH.setRow hb' rfl q1 ⟨_, setRow_heap w r cur _ te (0, 0) q4, rfl, by
      rw [← e1.1]
      exact (((q5.take _).append e1).append (q5.drop _))⟩

theorem clear_exec {o : Oper} {x : Operand} {t : TypeId} {e : Operand → Value} (ho : o.op = .call { callee := .builtin .clear, args := #[x], argTypes := #[t] }) {w w' : World} {v : Value}
    (h : (Builtin.clear_ #[t] o.type #[e x]).run P w = .ok v w') : (execOp e o).run P w = .ok (.value v) w' := by
  simp only [execOp, ho, resolve, invoke, builtin, Sem.run_bind, Sem.run_pure, Result.andThen_ok, List.map_toArray, List.map_cons, List.map_nil, h]
/-- clear(s), s of n elements. -/
theorem sp_clear {o : Oper} {m : Nat} {ev : Operand → Value} {h : Nat → Option Blk} {x : Operand} {t e : Nat} {z : List Value} {b k n c : Nat} {cb : List Value} {te : TypeId}
    (ho : o.op = .call { callee := .builtin .clear, args := #[x], argTypes := #[t] }) (ht : Vm.sl t = some e) (he : ElOk e z) (hz1 : z.all (·.oneCell') = true)
    (hx : ev x = .slice (some ⟨b, k, none⟩) n c) (hb : h b = some (.cells cb te true)) (hn : 0 < n) (hfit : k + n * z.length ≤ cb.length) :
    SpOk o m ev h [b] (fun v u => v = .tuple #[] ∧ u = [(b, .cells (cb.take k ++ zrow n z ++ cb.drop (k + n * z.length)) te true)]) := by
  intro M ρ h' w ac hh hev hH _
  obtain ⟨i, zv, hi, hz, hzc, hsz, _, hpl, h0⟩ := he
  have hx1 := hev x (by rw [ho]; simp [Op.operands, Call.operands])
  rw [hx] at hx1
  obtain ⟨r, of, q1, q2⟩ := hx1.slice_inv
  have hb' : h' b = some (.cells cb te true) := (hh b (by simp)).trans hb
  obtain ⟨r', of', q3, ⟨cur, q4, rfl, q5⟩, q6⟩ := hH.blk b _ hb'
  rw [q1] at q3
  cases q3
  rw [Nat.zero_add] at q2
  have hzr := zrow_rel (ρ := ρ) n z hpl h0
  obtain ⟨zs, hzs⟩ : ∃ zs, zs = (Builtin.zeroCells zv.cells n).toList := ⟨_, rfl⟩
  have hzs2 : RelL ρ (zrow n z) zs := by rw [hzs]; simpa [Builtin.zeroCells, hzc] using hzr
  have hlen : zs.length = n * z.length := by rw [← hzs2.1, zrow_len]
  have honez : (zrow n z).all (·.oneCell') = true := by
    have : ∀ n, (zrow n z).all (·.oneCell') = true := by
      intro n
      induction n with
      | zero => rfl
      | succ n ih => simp only [zrow, List.all_append, hz1, ih, Bool.and_self]
    exact this n
  have hst := run_storeCells_at P r k te zs 0 cur w q4 (by rw [hlen]; have := q5.1; simp at this; omega) (hzs2.all_oneCell honez)
  simp only [Nat.add_zero] at hst
  have hrun : (Builtin.clear_ #[t] o.type #[.slice (some ⟨r, k, none⟩) n c]).run P w = .ok (.tuple #[]) (w.setRow r (cur.toList.take k ++ zs ++ cur.toList.drop (k + zs.length)).toArray) := by
    obtain ⟨q, rfl⟩ : ∃ q, n = q + 1 := ⟨n - 1, by omega⟩
    have hzv : ∀ w, (zeroValue e).run P w = .ok zv w := by intro w; simp [zeroValue, typeInfo, hi, hz]
    simp only [Builtin.clear_, List.getElem?_toArray, List.getElem?_cons_zero, Sem.run_bind, run_underlying (sl_ok ht), Result.andThen_ok, hzv, ← hzs, hst, Sem.run_pure]
  rw [← q2] at hrun
  unfold Oper.wp
  rw [clear_exec ho hrun]
  refine ⟨_, _, _, ρ, ⟨rfl, rfl⟩, rfl, Ext.refl _, .plain rfl, ?_, Kept.setRow (q6 rfl) _, fun x hx => (by simp at hx; exact .inr (by rw [hx, q1]; simp)), fun k hk _ => hk⟩
  refine hH.setRow hb' rfl q1 ⟨_, setRow_heap w r cur _ te (0, 0) q4, rfl, ?_⟩
  have e2 : n * z.length = (zrow n z).length := (zrow_len z n).symm
  rw [e2, hzs2.1]
  exact (((q5.take _).append hzs2).append (q5.drop _))

/-- slices.overlaps, of two blocks. -/
theorem run_over {w : World} {a b : Addr} {la ca lb cb : Nat} (hne : a.block ≠ b.block) {xa xb : Array Value} {ta tb : TypeId} (ha : w.heap[a.block]? = some (.cells xa ta (0, 0))) (hb : w.heap[b.block]? = some (.cells xb tb (0, 0))) (hxb : xb.size ≠ 0) :
    (callFunc 128 #[.slice (some a) la ca, .slice (some b) lb cb]).run P w = .ok (.value (.bool false)) w := by
  have h1 := run_callFunc_extern (P := P) (f := 128) (e := Extern.SlicesOverlaps.overlaps #[53, 53] #[4]) Try.func128 (by kernel_rfl) (by kernel_rfl) (by kernel_rfl) (by kernel_rfl) #[.slice (some a) la ca, .slice (some b) lb cb] w
  rw [h1, Go.Lib.run_overlaps_apart w 53 4 67 (sl_ok (t := 53) rfl) 5 (fun w => ty67.size w) a b la ca lb cb hne ta tb xa.size xb.size (by simp [World.shape?, ha]) (by simp [World.shape?, hb]) hxb (by simp [World.frozen?, ha]) (by simp [World.frozen?, ha])]
  rfl
theorem sp_over2 {o : Oper} {m : Nat} {ev : Operand → Value} {h : Nat → Option Blk} {x y : Operand} {ats : Array TypeId} {b1 b2 k1 k2 n1 c1 n2 c2 : Nat} {d1 d2 : List Value} {t1 t2 : TypeId}
    (ho : o.op = .call { callee := .value (.func 128), args := #[x, y], argTypes := ats }) (hx : ev x = .slice (some ⟨b1, k1, none⟩) n1 c1) (hy : ev y = .slice (some ⟨b2, k2, none⟩) n2 c2) (hne : b1 ≠ b2) (h1 : h b1 = some (.cells d1 t1 true)) (h2 : h b2 = some (.cells d2 t2 true)) (hd : d2 ≠ []) :
    SpOk o m ev h [b1, b2] (fun v u => v = .bool false ∧ u = []) := by
  intro M ρ h' w ac hh hev hH _
  have hx1 := hev x (by rw [ho]; simp [Op.operands, Call.operands])
  have hy1 := hev y (by rw [ho]; simp [Op.operands, Call.operands])
  rw [hx] at hx1
  rw [hy] at hy1
  obtain ⟨r1, o1, p1, p2⟩ := hx1.slice_inv
  obtain ⟨r2, o2, q1, q2⟩ := hy1.slice_inv
  have g1 : h' b1 = some (.cells d1 t1 true) := (hh b1 (by simp)).trans h1
  have g2 : h' b2 = some (.cells d2 t2 true) := (hh b2 (by simp)).trans h2
  obtain ⟨r1', o1', p3, ⟨x1, p4, _, p5⟩, _⟩ := hH.blk b1 _ g1
  obtain ⟨r2', o2', q3, ⟨x2, q4, _, q5⟩, _⟩ := hH.blk b2 _ g2
  rw [p1] at p3
  rw [q1] at q3
  cases p3
  cases q3
  have hrr := hH.inj b1 b2 _ _ _ _ _ _ g1 g2 hne rfl p1 q1
  have hxs : x2.size ≠ 0 := by
    have := q5.1
    have hl : d2.length ≠ 0 := fun e => hd (List.eq_nil_of_length_eq_zero e)
    simp at this
    omega
  have hrun : (execOp ac.eval o).run P w = .ok (.value (.bool false)) w := by
    simp only [execOp, ho, resolve, Sem.run_bind, Deferred.ofValue, Sem.run_pure, Result.andThen_ok, invoke, Array.empty_append, Array.append_empty, Act.eval, List.map_toArray, List.map_cons, List.map_nil]
    have e1 : ac.eval x = _ := p2
    have e2 : ac.eval y = _ := q2
    have := run_over (w := w) (a := ⟨r1, o1 + k1, none⟩) (b := ⟨r2, o2 + k2, none⟩) (la := n1) (ca := c1) (lb := n2) (cb := c2) hrr p4 q4 hxs
    rw [← e1, ← e2] at this
    exact this
  unfold Oper.wp
  rw [hrun]
  exact ⟨_, _, [], ρ, ⟨rfl, rfl⟩, rfl, Ext.refl _, .plain rfl, hH, Kept.refl _ _, fun x hx => (by cases hx), fun k hk _ => hk⟩
end Go.Proofs.Ytdfkcijholopoaa.Vm
