/- What the proofs stand on, in one text: Nb, Qa, Qb, Qc, Qd, Qe, Qf, Qg. -/
import Derived.Test.YtdfkcijholopoaaMg12
namespace Go.Proofs.Ytdfkcijholopoaa.Vm
open Go Go.RowKit
set_option maxRecDepth 10000
set_option linter.unusedSimpArgs false
set_option linter.unusedVariables false


/-- Behind a region: the state laid anew, under new names. -/
theorem renF {B N : Nat} {y : Code} {Q : Exit → St → Prop} {t : Nat → Value} {h : Nat → Option Blk} {n : Nat} (g : Nat → Nat) (lt : List (Nat × Value)) (lh : List (Nat × Blk)) (K : Nat) (hB : B ≤ K) (hg : ∀ m, m < B → g m = m) (ht : HasTR t (fun k => (g k, 0)) lt) (hh : HasFl h (fun k => (g k, 0)) lh) (hb : bdT K lt = true) (hb' : bdH K lh = true)
    (hi : injF (fun k => (g k, 0)) (lh.map fun x => (x.1, x.2.own)) = true) (k : thenV (B := B) N y Q .normal ⟨updT (fun _ => junk) lt, updH (fun _ => none) lh, K⟩) : thenV (B := B) N y Q .normal ⟨t, h, n⟩ :=
  vc_fg (s := ⟨t, h, n⟩) (fg_ren g lt lh K hB hg ht hh hb hb' hi) k
abbrev AR46 (l : List Rn) (r : Rn) (b c : Nat) : List Value := [qv 0 l.length c, rv r, u64 b]
def Out46e (e : Int) : Value → List (Nat × Blk) → Prop := fun v u => v = .tuple #[qnil, .int .i64 e] ∧ u = []
def Out46k (l1 : List Rn) (n : Nat) : Value → List (Nat × Blk) → Prop := fun v u => ∃ c2 sp2, plainL sp2 = true ∧ v = .tuple #[qv 1 n c2, .int .i64 0] ∧ u = [(1, .cells (rws rc l1 ++ sp2) 67 true)]
def Out49k (l1 : List Rn) (n : Nat) (a : Rn) : Value → List (Nat × Blk) → Prop := fun v u => ∃ c2 sp2, n ≤ c2 ∧ plainL sp2 = true ∧ v = .tuple #[qv 1 n c2, rv a, .int .i64 0] ∧ u = [(1, .cells (rws rc l1 ++ sp2) 67 true)]
theorem fr_neq (n w : Nat) : (!((((n/2^64:Nat):Int) == ((n/2^64:Nat):Int)) && (((n%2^64:Nat):Int) == ((n%2^64:Nat):Int)) && ((w:Int) == (w:Int)))) = false := by simp
/-- Join, in three ways. -/
theorem near_cases (l : List Rn) (r : Rn) (b c : Nat) (hl : l.length ≤ 17) (hc : l.length ≤ c) :
    (∃ e, e ≠ 0 ∧ e = joinE l r b ∧ FC 46 [qv 0 l.length c, rv r, u64 b] 1 [(0, .cells (rws rc l) 0 false)] (Out46e e)) ∨
    (joinE l r b = 0 ∧ okq 0 l = true ∧ topS none l = none ∧ FC 46 [qv 0 l.length c, rv r, u64 b] 1 [(0, .cells (rws rc l) 0 false)] (Out46k (joinQ l r b) (l.length + 1))) ∨
    (∃ a v, joinE l r b = 0 ∧ okq 0 l = true ∧ topS none l = some (a, v) ∧ FC 46 [qv 0 l.length c, rv r, u64 b] 1 [(0, .cells (rws rc l) 0 false)] (Out46k (joinQ l r b) (l.length + 1))) := by
  rcases p46 l r b c (by omega) hc with ⟨h1, h2⟩ | ⟨h1, h2, _, _, _, h6⟩
  · exact .inl ⟨_, h1, rfl, h2⟩
  · cases ht : topS none l with
    | none => exact .inr (.inl ⟨h1, h2, rfl, h6⟩)
    | some x => exact .inr (.inr ⟨x.1, x.2, h1, h2, rfl, h6⟩)
theorem leave_ok {l : List Rn} {a : Rn} {k : Nat} (c : Nat) (hl : l.length ≤ 900) (hq : okq 0 l = true) (ha : l[k]? = some a) : FC 49 [qv 0 l.length c, .int .i64 a.id] 1 [(0, .cells (rws rc l) 0 false)] (Out49k (delQ l k) (l.length - 1) a) := by
  obtain ⟨e1, e2, _⟩ := at_of hq ha
  have hid := okR_id ((okq0.1 hq).1 a (List.mem_of_getElem? ha))
  have hE : leaveE l a.id = 0 := by simp [leaveE, hq, e2, inI, hid]
  rcases p49 l a.id c hl with ⟨h, _⟩ | ⟨_, _, _, _, a', ha', h⟩
  · exact absurd hE h
  · rw [e1] at ha' h
    rw [ha] at ha'
    cases ha'
    exact h
theorem same_ro (l : List Rn) (ca cb : Nat) (hl : l.length ≤ 900) : RO 45 [qv 0 l.length ca, qv 1 l.length cb] [(0, rws rc l), (1, rws rc l)] (.bool true) := by
  have h := p45 l l ca cb (by omega)
  rw [decide_eq_true rfl] at h
  exact h

theorem p9 (x : List Rn) (r : Rn) (b c : Nat) (hb64 : b < 2 ^ 64) (hc : x.length ≤ c) : RO 9 [qv 0 x.length c, rv r, u64 b] [(0, rws rc x)] (.bool true) := by
  refine ro_of _ 1 Try.func9 rfl Try.ntmps9 (by kernel_rfl) (by simp) rfl rfl (by simp) (by simp [rcs_plain]) ?_
  refine vc_seq ?_
  refine vc_go (by kernel_rfl) fun K hK => hK _ _ _ ?_
  clear hK K
  refine vc_seq ?_
  refine vc_seq ?_
  refine vc_reg (by kernel_rfl) fun K hK => ?_
  refine run_call (p38) rfl rfl rfl rfl ?_
  refine run_end (z := false) fun K' hK' => hK' _ _ _ (hK _ _ _ ?_)
  clear hK' K' hK K
  refine vc_cond (t := false) rfl (fun h => by cases h) (fun _ => ?_)
  refine vc_skip ?_
  refine vc_seq ?_
  refine vc_reg (by kernel_rfl) fun K hK => ?_
  refine run_n (z := false) 1 (fun K' hK' => hK' _ _ _ ?_) (by decide)
  clear hK' K'
  refine run_fc (fun k => (k, 0)) (p39 hc) (hasF ⟨sf_winp (rcs_plain x) rfl get_zero, trivial⟩ rfl) rfl rfl rfl rfl ⟨_, _, _, Nat.le_refl _, rfl, rfl⟩ ?_
  rintro _ _ ⟨c2, hlc, rfl, rfl⟩
  rw [renU_c (renB_p (spare_plain _ _)) renU_nil]
  have hl : (x.take 17).length ≤ 17 := take17 x
  generalize x.take 17 = l at *
  refine run_end (z := false) fun K' hK' => hK' _ _ _ (hK _ _ _ ?_)
  clear hK' K' hK K
  refine renF (fun k => if k = 0 then 2 else if k = 1 then 5 else 4) [(2, u64 b), (4, .pointer (some ⟨0, 0, none⟩)), (6, .bool false), (7, .pointer (some ⟨1, 0, none⟩))] [(0, .cells (rc r) 67 true), (1, .cells [.slice (some ⟨2, 0, none⟩) l.length c2] 55 true), (2, .cells (rws rc l) 67 false)] 3 (by decide) (fun m hm => absurd hm (Nat.not_lt_zero m)) ⟨rfl, rfl, rfl, rfl, trivial⟩ ⟨sf_ownp (rc_plain r) rfl rfl, sf_own rfl rfl, sf_winp (rcs_plain l) rfl get_zero_app, trivial⟩ rfl (bdH_c (by decide) (rc_plain r) (bdH_b (by decide) rfl (bdH_c (by decide) (rcs_plain l) rfl))) rfl ?_
  refine vc_seq ?_
  rcases near_cases l r b c2 hl hlc with ⟨e, he, hee, h46⟩ | ⟨he, hq, ht, h46⟩ | ⟨a, v, he, hq, ht, h46⟩
  · have h40 := p40 l c2 (by omega)
    refine vc_reg (by kernel_rfl) fun K hK => ?_
    refine run_n (z := false) 1 (fun K' hK' => hK' _ _ _ ?_) (by decide)
    clear hK' K'
    refine run_ro (fun _ => (2, 0)) (h40) ?_ rfl rfl rfl rfl ?_
    · intro x hx
      simp only [List.mem_singleton] at hx
      subst hx
      exact ⟨_, _, _, rfl, fun i v hv => by rw [Nat.zero_add]; exact hv⟩
    refine run_end (z := false) fun K' hK' => hK' _ _ _ (hK _ _ _ ?_)
    clear hK' K' hK K
    refine vc_seq ?_
    refine vc_reg (by kernel_rfl) fun K hK => ?_
    refine run_n (z := false) 3 (fun K' hK' => hK' _ _ _ ?_) (by decide)
    clear hK' K'
    refine run_fc (fun _ => (2, 0)) h46 (hasF ⟨sf_winp (rcs_plain l) rfl get_zero, trivial⟩ rfl) rfl rfl rfl rfl ⟨_, _, rfl, rfl⟩ ?_
    rintro _ _ ⟨rfl, rfl⟩
    refine run_end (z := false) fun K' hK' => hK' _ _ _ (hK _ _ _ ?_)
    clear hK' K' hK K
    refine vc_seq ?_
    refine vc_seq ?_
    refine vc_go (by kernel_rfl) fun K hK => hK _ _ _ ?_
    clear hK K
    refine vc_cond (t := true) (bb (bne_iff_ne.2 he)) (fun _ => ?_) (fun h => by cases h)
    refine vc_seq ?_
    refine vc_go (by kernel_rfl) fun K hK => hK _ _ _ ?_
    clear hK K
    exact vc_ret ⟨.inr rfl, rfl⟩
  · have h40 := p40 l c2 (by omega)
    rw [topQ_yes hq, ht] at h40
    obtain ⟨jok, jlen, jget, jdel, jat, jq, jb⟩ := joinQ_ok he
    obtain ⟨_, hr, _, hb, hfit⟩ := join_fits he
    have h43 := fun c => p43 (joinQ l r b) c r.id (by omega)
    have h47 := fun c => p47 (joinQ l r b) c (by omega)
    simp only [jq, chk1_yes jok, jlen] at h43 h47
    have hw1 : IntKind.i64.wrap ((l.length : Int) + 1) = ((l.length + 1 : Nat) : Int) := by rw [wrapI (by omega) (by omega)]; omega
    have hT : joinT l r b = r.n := by unfold joinT; rw [ht]
    refine vc_reg (by kernel_rfl) fun K hK => ?_
    refine run_n (z := false) 1 (fun K' hK' => hK' _ _ _ ?_) (by decide)
    clear hK' K'
    refine run_ro (fun _ => (2, 0)) (h40) ?_ rfl rfl rfl rfl ?_
    · intro x hx
      simp only [List.mem_singleton] at hx
      subst hx
      exact ⟨_, _, _, rfl, fun i v hv => by rw [Nat.zero_add]; exact hv⟩
    refine run_end (z := false) fun K' hK' => hK' _ _ _ (hK _ _ _ ?_)
    clear hK' K' hK K
    refine vc_seq ?_
    refine vc_reg (by kernel_rfl) fun K hK => ?_
    refine run_n (z := false) 3 (fun K' hK' => hK' _ _ _ ?_) (by decide)
    clear hK' K'
    refine run_fc (fun _ => (2, 0)) h46 (hasF ⟨sf_winp (rcs_plain l) rfl get_zero, trivial⟩ rfl) rfl rfl rfl rfl ⟨_, _, 0, [], rfl, rfl, rfl⟩ ?_
    rintro _ _ ⟨c3, sp3, hp3, rfl, rfl⟩
    rw [renU_c (renB_p (plainL_append (rcs_plain _) hp3)) renU_nil]
    refine run_end (z := false) fun K' hK' => hK' _ _ _ (hK _ _ _ ?_)
    clear hK' K' hK K
    refine refocusF [(2, u64 b), (4, .pointer (some ⟨0, 0, none⟩)), (6, .bool false), (7, .pointer (some ⟨1, 0, none⟩)), (8, .pointer (some ⟨8, 0, none⟩)), (9, .bool false), (10, .pointer (some ⟨16, 0, none⟩)), (11, .int .i64 0)] [(0, .cells (rc r) 67 true), (1, .cells [.slice (some ⟨2, 0, none⟩) l.length c2] 55 true), (2, .cells (rws rc l) 67 false), (8, .cells (frc 0 0) 58 true), (12, .cells (rws rc (joinQ l r b) ++ sp3) 67 true), (16, .cells [.slice (some ⟨12, 0, none⟩) (l.length + 1) c3] 55 true)] 17 (by decide) ⟨rfl, rfl, rfl, rfl, rfl, rfl, rfl, rfl, trivial⟩ ⟨sb rfl, sb rfl, sb rfl, sb rfl, sb rfl, sb rfl, trivial⟩ rfl (bdH_c (by decide) (rc_plain r) (bdH_b (by decide) rfl (bdH_c (by decide) (rcs_plain l) (bdH_c (by decide) (by rfl) (bdH_c (by decide) (plainL_append (rcs_plain _) hp3) (bdH_b (by decide) rfl rfl)))))) ?_
    refine vc_seq ?_
    refine vc_seq ?_
    refine vc_go (by kernel_rfl) fun K hK => hK _ _ _ ?_
    clear hK K
    refine vc_cond (t := false) rfl (fun h => by cases h) (fun _ => ?_)
    refine vc_skip ?_
    refine vc_seq ?_
    refine vc_reg (by kernel_rfl) fun K hK => ?_
    refine run_n (z := false) 3 (fun K' hK' => hK' _ _ _ ?_) (by decide)
    clear hK' K'
    refine run_ro (fun _ => (12, 0)) ((h43 c3)) ?_ rfl rfl rfl rfl ?_
    · intro x hx
      simp only [List.mem_singleton] at hx
      subst hx
      exact ⟨_, _, _, rfl, get_zero_app⟩
    refine run_end (z := false) fun K' hK' => hK' _ _ _ (hK _ _ _ ?_)
    clear hK' K' hK K
    refine vc_seq ?_
    refine vc_seq ?_
    refine vc_reg (by kernel_rfl) fun K hK => ?_
    refine run_n (z := false) 3 (fun K' hK' => hK' _ _ _ ?_) (by decide)
    clear hK' K'
    refine vgo_known 47 (b := false) (rfl) ?_
    refine run_n (z := false) 1 (fun K' hK' => hK' _ _ _ ?_) (by decide)
    clear hK' K'
    refine run_ro (fun _ => (12, 0)) ((h47 c3)) ?_ rfl rfl rfl rfl ?_
    · intro x hx
      simp only [List.mem_singleton] at hx
      subst hx
      exact ⟨_, _, _, rfl, get_zero_app⟩
    refine run_n (z := false) 3 (fun K' hK' => hK' _ _ _ ?_) (by decide)
    clear hK' K'
    refine vgo_known 52 (b := false) (rfl) ?_
    refine run_n (z := false) 10 (fun K' hK' => hK' _ _ _ ?_) (by decide)
    clear hK' K'
    refine vgo_known 62 (b := false) (bb (by rw [hw1]; simp)) ?_
    refine run_n (z := false) 7 (fun K' hK' => hK' _ _ _ ?_) (by decide)
    clear hK' K'
    refine vgo_known 69 (b := false) (bb (by simp)) ?_
    refine run_end (z := false) fun K' hK' => hK' _ _ _ (hK _ _ _ ?_)
    clear hK' K' hK K
    refine vc_cond (t := false) (bb (by simp)) (fun h => by cases h) (fun _ => ?_)
    refine vc_skip ?_
    refine vc_seq ?_
    refine vc_seq ?_
    refine vc_go (by kernel_rfl) fun K hK => hK _ _ _ ?_
    clear hK K
    refine vc_cond (t := true) rfl (fun _ => ?_) (fun h => by cases h)
    refine vc_seq ?_
    refine vc_go (by kernel_rfl) fun K hK => hK _ _ _ ?_
    clear hK K
    refine vc_ret ⟨.inr rfl, ?_⟩
    exact fin_bb ((rn_beq _ _).trans (decide_eq_true (by rw [hT]; rfl)))
  · have h40 := p40 l c2 (by omega)
    rw [topQ_yes hq, ht] at h40
    obtain ⟨jok, jlen, jget, jdel, jat, jq, jb⟩ := joinQ_ok he
    obtain ⟨_, hr, _, hb, hfit⟩ := join_fits he
    have h43 := fun c => p43 (joinQ l r b) c r.id (by omega)
    have h47 := fun c => p47 (joinQ l r b) c (by omega)
    simp only [jq, chk1_yes jok, jlen] at h43 h47
    have hw1 : IntKind.i64.wrap ((l.length : Int) + 1) = ((l.length + 1 : Nat) : Int) := by rw [wrapI (by omega) (by omega)]; omega
    have hra : rt a v = true := topS_rt (okq_mem hq) (fun x h => by cases h) _ ht
    have hv : 0 < v := (rt_w hra).1
    have hrr : rt r.n r.w = true := okR_rt hr
    have hA := hfit a v ht
    have hT : joinT l r b = joinN a v r.w (b * r.each.toNat) r.n := by unfold joinT; rw [ht]
    have hrT : rt (joinT l r b) r.w = true := rt_mk (rt_wt hrr) (joinT_lt he)
    obtain ⟨n1, n2⟩ := join_near (a := a) (v := v) (w := r.w) (k := b * r.each.toNat) (n := r.n) hv
    rw [← hT] at n1 n2
    have h48 : Pure 48 [fr (joinT l r b) r.w, fr a v] (.bool true) := by
      rcases Nat.eq_zero_or_pos (joinT l r b) with h | h
      · exact p48a hrT hra n1 h
      · refine p48b hrT hra n1 (by omega) ?_
        rcases n2 with n2 | n2
        · omega
        · unfold cmpW
          rw [if_pos n2]
          decide
    have h42 := p42y hrT hra
    have k42 := p42y hrr hra
    have h49 := fun c => leave_ok c (by omega) jok jget
    simp only [jdel, jlen, Nat.add_sub_cancel] at h49
    refine vc_reg (by kernel_rfl) fun K hK => ?_
    refine run_n (z := false) 1 (fun K' hK' => hK' _ _ _ ?_) (by decide)
    clear hK' K'
    refine run_ro (fun _ => (2, 0)) (h40) ?_ rfl rfl rfl rfl ?_
    · intro x hx
      simp only [List.mem_singleton] at hx
      subst hx
      exact ⟨_, _, _, rfl, fun i v hv => by rw [Nat.zero_add]; exact hv⟩
    refine run_end (z := false) fun K' hK' => hK' _ _ _ (hK _ _ _ ?_)
    clear hK' K' hK K
    refine vc_seq ?_
    refine vc_reg (by kernel_rfl) fun K hK => ?_
    refine run_n (z := false) 3 (fun K' hK' => hK' _ _ _ ?_) (by decide)
    clear hK' K'
    refine run_fc (fun _ => (2, 0)) h46 (hasF ⟨sf_winp (rcs_plain l) rfl get_zero, trivial⟩ rfl) rfl rfl rfl rfl ⟨_, _, 0, [], rfl, rfl, rfl⟩ ?_
    rintro _ _ ⟨c3, sp3, hp3, rfl, rfl⟩
    rw [renU_c (renB_p (plainL_append (rcs_plain _) hp3)) renU_nil]
    refine run_end (z := false) fun K' hK' => hK' _ _ _ (hK _ _ _ ?_)
    clear hK' K' hK K
    refine refocusF [(2, u64 b), (4, .pointer (some ⟨0, 0, none⟩)), (6, .bool false), (7, .pointer (some ⟨1, 0, none⟩)), (8, .pointer (some ⟨8, 0, none⟩)), (9, .bool true), (10, .pointer (some ⟨16, 0, none⟩)), (11, .int .i64 0)] [(0, .cells (rc r) 67 true), (1, .cells [.slice (some ⟨2, 0, none⟩) l.length c2] 55 true), (2, .cells (rws rc l) 67 false), (8, .cells (frc a v) 58 true), (12, .cells (rws rc (joinQ l r b) ++ sp3) 67 true), (16, .cells [.slice (some ⟨12, 0, none⟩) (l.length + 1) c3] 55 true)] 17 (by decide) ⟨rfl, rfl, rfl, rfl, rfl, rfl, rfl, rfl, trivial⟩ ⟨sb rfl, sb rfl, sb rfl, sb rfl, sb rfl, sb rfl, trivial⟩ rfl (bdH_c (by decide) (rc_plain r) (bdH_b (by decide) rfl (bdH_c (by decide) (rcs_plain l) (bdH_c (by decide) (by rfl) (bdH_c (by decide) (plainL_append (rcs_plain _) hp3) (bdH_b (by decide) rfl rfl)))))) ?_
    refine vc_seq ?_
    refine vc_seq ?_
    refine vc_go (by kernel_rfl) fun K hK => hK _ _ _ ?_
    clear hK K
    refine vc_cond (t := false) rfl (fun h => by cases h) (fun _ => ?_)
    refine vc_skip ?_
    refine vc_seq ?_
    refine vc_reg (by kernel_rfl) fun K hK => ?_
    refine run_n (z := false) 3 (fun K' hK' => hK' _ _ _ ?_) (by decide)
    clear hK' K'
    refine run_ro (fun _ => (12, 0)) ((h43 c3)) ?_ rfl rfl rfl rfl ?_
    · intro x hx
      simp only [List.mem_singleton] at hx
      subst hx
      exact ⟨_, _, _, rfl, get_zero_app⟩
    refine run_end (z := false) fun K' hK' => hK' _ _ _ (hK _ _ _ ?_)
    clear hK' K' hK K
    refine vc_seq ?_
    refine vc_seq ?_
    refine vc_reg (by kernel_rfl) fun K hK => ?_
    refine run_n (z := false) 3 (fun K' hK' => hK' _ _ _ ?_) (by decide)
    clear hK' K'
    refine vgo_known 47 (b := false) (rfl) ?_
    refine run_n (z := false) 1 (fun K' hK' => hK' _ _ _ ?_) (by decide)
    clear hK' K'
    refine run_ro (fun _ => (12, 0)) ((h47 c3)) ?_ rfl rfl rfl rfl ?_
    · intro x hx
      simp only [List.mem_singleton] at hx
      subst hx
      exact ⟨_, _, _, rfl, get_zero_app⟩
    refine run_n (z := false) 3 (fun K' hK' => hK' _ _ _ ?_) (by decide)
    clear hK' K'
    refine vgo_known 52 (b := false) (rfl) ?_
    refine run_n (z := false) 10 (fun K' hK' => hK' _ _ _ ?_) (by decide)
    clear hK' K'
    refine vgo_known 62 (b := false) (bb (by rw [hw1]; simp)) ?_
    refine run_n (z := false) 7 (fun K' hK' => hK' _ _ _ ?_) (by decide)
    clear hK' K'
    refine vgo_known 69 (b := false) (bb (by simp)) ?_
    refine run_end (z := false) fun K' hK' => hK' _ _ _ (hK _ _ _ ?_)
    clear hK' K' hK K
    refine vc_cond (t := false) (bb (by simp)) (fun h => by cases h) (fun _ => ?_)
    refine vc_skip ?_
    refine vc_seq ?_
    refine vc_seq ?_
    refine vc_go (by kernel_rfl) fun K hK => hK _ _ _ ?_
    clear hK K
    refine vc_cond (t := false) rfl (fun h => by cases h) (fun _ => ?_)
    refine vc_skip ?_
    refine vc_seq ?_
    refine vc_seq ?_
    by_cases hb0 : b = 0
    · have hz : cmpW (joinT l r b * v) (a * r.w) < 0 → False := by
        intro h
        rw [hT, hb0, Nat.zero_mul, join_zero] at h
        have := sc_ge' (a := a) (m := r.w) (d := v) hv
        unfold cmpW at h
        split at h
        · omega
        · split at h <;> simp at h
      refine vc_reg (by kernel_rfl) fun K hK => ?_
      refine run_n (z := false) 3 (fun K' hK' => hK' _ _ _ ?_) (by decide)
      clear hK' K'
      refine run_call (h48) rfl rfl rfl rfl ?_
      refine run_n (z := false) 2 (fun K' hK' => hK' _ _ _ ?_) (by decide)
      clear hK' K'
      refine vgo_known 88 (b := false) (rfl) ?_
      refine run_n (z := false) 3 (fun K' hK' => hK' _ _ _ ?_) (by decide)
      clear hK' K'
      refine vgo_known 91 (b := true) (bb (by simp [hb0])) ?_
      refine run_n (z := false) 3 (fun K' hK' => hK' _ _ _ ?_) (by decide)
      clear hK' K'
      refine run_call (h42) rfl rfl rfl rfl ?_
      refine run_end (z := false) fun K' hK' => hK' _ _ _ (hK _ _ _ ?_)
      clear hK' K' hK K
      refine vc_cond (t := false) (bb (decide_eq_false hz)) (fun h => by cases h) (fun _ => ?_)
      refine vc_skip ?_
      refine vc_seq ?_
      refine vc_seq ?_
      by_cases heq : cmpW (r.n * v) (a * r.w) = 0
      · have hTn : joinT l r b = r.n := by
          rw [hT]
          refine join_top hv ?_
          rw [cmpW_eq] at heq
          exact heq
        refine vc_reg (by kernel_rfl) fun K hK => ?_
        refine run_n (z := false) 3 (fun K' hK' => hK' _ _ _ ?_) (by decide)
        clear hK' K'
        refine run_call (k42) rfl rfl rfl rfl ?_
        refine run_n (z := false) 2 (fun K' hK' => hK' _ _ _ ?_) (by decide)
        clear hK' K'
        refine vgo_known 104 (b := true) (bb (by rw [heq]; rfl)) ?_
        refine run_end (z := false) fun K' hK' => hK' _ _ _ (hK _ _ _ ?_)
        clear hK' K' hK K
        refine vc_cond (t := false) (bb (by rw [hTn]; exact fr_neq r.n r.w)) (fun h => by cases h) (fun _ => ?_)
        refine vc_skip ?_
        refine vc_seq ?_
        refine vc_reg (by kernel_rfl) fun K hK => ?_
        refine run_n (z := false) 3 (fun K' hK' => hK' _ _ _ ?_) (by decide)
        clear hK' K'
        refine run_fc (fun _ => (12, 0)) (h49 c3) (hasF ⟨sf_winp (rcs_plain _) rfl get_zero_app, trivial⟩ rfl) rfl rfl rfl rfl ⟨_, _, _, [], Nat.le_refl _, rfl, rfl, rfl⟩ ?_
        rintro _ _ ⟨c4, sp4, _, hp4, rfl, rfl⟩
        rw [renU_c (renB_p (plainL_append (rcs_plain _) hp4)) renU_nil]
        refine run_end (z := false) fun K' hK' => hK' _ _ _ (hK _ _ _ ?_)
        clear hK' K' hK K
        refine vc_seq ?_
        refine vc_reg (by kernel_rfl) fun K hK => ?_
        refine run_n (z := false) 3 (fun K' hK' => hK' _ _ _ ?_) (by decide)
        clear hK' K'
        refine vgo_known 121 (b := true) (rfl) ?_
        refine run_n (z := false) 5 (fun K' hK' => hK' _ _ _ ?_) (by decide)
        clear hK' K'
        refine vgo_known 126 (b := true) (bb ((rn_beq _ _).trans (decide_eq_true rfl))) ?_
        refine run_n (z := false) 2 (fun K' hK' => hK' _ _ _ ?_) (by decide)
        clear hK' K'
        refine run_ro (fun k => if k = 0 then (28, 0) else (2, 0)) (same_ro l c4 c2 (by omega)) ?_ rfl rfl rfl rfl ?_
        · intro x hx
          simp only [List.mem_cons, List.mem_singleton, List.not_mem_nil, or_false] at hx
          rcases hx with rfl | rfl
          · exact ⟨_, _, _, rfl, get_zero_app⟩
          · exact ⟨_, _, _, rfl, fun i v hv => (congrArg (fun k => (rws rc l)[k]?) (Nat.zero_add i)).trans hv⟩
        refine run_end (z := false) fun K' hK' => hK' _ _ _ (hK _ _ _ ?_)
        clear hK' K' hK K
        exact vc_ret ⟨.inr rfl, rfl⟩
      · skip
        refine vc_reg (by kernel_rfl) fun K hK => ?_
        refine run_n (z := false) 3 (fun K' hK' => hK' _ _ _ ?_) (by decide)
        clear hK' K'
        refine run_call (k42) rfl rfl rfl rfl ?_
        refine run_n (z := false) 2 (fun K' hK' => hK' _ _ _ ?_) (by decide)
        clear hK' K'
        refine vgo_known 104 (b := false) (bb (beq_eq_false_iff_ne.2 heq)) ?_
        refine run_end (z := false) fun K' hK' => hK' _ _ _ (hK _ _ _ ?_)
        clear hK' K' hK K
        refine vc_cond (t := false) rfl (fun h => by cases h) (fun _ => ?_)
        refine vc_skip ?_
        refine vc_seq ?_
        refine vc_reg (by kernel_rfl) fun K hK => ?_
        refine run_n (z := false) 3 (fun K' hK' => hK' _ _ _ ?_) (by decide)
        clear hK' K'
        refine run_fc (fun _ => (12, 0)) (h49 c3) (hasF ⟨sf_winp (rcs_plain _) rfl get_zero_app, trivial⟩ rfl) rfl rfl rfl rfl ⟨_, _, _, [], Nat.le_refl _, rfl, rfl, rfl⟩ ?_
        rintro _ _ ⟨c4, sp4, _, hp4, rfl, rfl⟩
        rw [renU_c (renB_p (plainL_append (rcs_plain _) hp4)) renU_nil]
        refine run_end (z := false) fun K' hK' => hK' _ _ _ (hK _ _ _ ?_)
        clear hK' K' hK K
        refine vc_seq ?_
        refine vc_reg (by kernel_rfl) fun K hK => ?_
        refine run_n (z := false) 3 (fun K' hK' => hK' _ _ _ ?_) (by decide)
        clear hK' K'
        refine vgo_known 121 (b := true) (rfl) ?_
        refine run_n (z := false) 5 (fun K' hK' => hK' _ _ _ ?_) (by decide)
        clear hK' K'
        refine vgo_known 126 (b := true) (bb ((rn_beq _ _).trans (decide_eq_true rfl))) ?_
        refine run_n (z := false) 2 (fun K' hK' => hK' _ _ _ ?_) (by decide)
        clear hK' K'
        refine run_ro (fun k => if k = 0 then (28, 0) else (2, 0)) (same_ro l c4 c2 (by omega)) ?_ rfl rfl rfl rfl ?_
        · intro x hx
          simp only [List.mem_cons, List.mem_singleton, List.not_mem_nil, or_false] at hx
          rcases hx with rfl | rfl
          · exact ⟨_, _, _, rfl, get_zero_app⟩
          · exact ⟨_, _, _, rfl, fun i v hv => (congrArg (fun k => (rws rc l)[k]?) (Nat.zero_add i)).trans hv⟩
        refine run_end (z := false) fun K' hK' => hK' _ _ _ (hK _ _ _ ?_)
        clear hK' K' hK K
        exact vc_ret ⟨.inr rfl, rfl⟩
    · skip
      refine vc_reg (by kernel_rfl) fun K hK => ?_
      refine run_n (z := false) 3 (fun K' hK' => hK' _ _ _ ?_) (by decide)
      clear hK' K'
      refine run_call (h48) rfl rfl rfl rfl ?_
      refine run_n (z := false) 2 (fun K' hK' => hK' _ _ _ ?_) (by decide)
      clear hK' K'
      refine vgo_known 88 (b := false) (rfl) ?_
      refine run_n (z := false) 3 (fun K' hK' => hK' _ _ _ ?_) (by decide)
      clear hK' K'
      refine vgo_known 91 (b := false) (bb (by simp; omega)) ?_
      refine run_end (z := false) fun K' hK' => hK' _ _ _ (hK _ _ _ ?_)
      clear hK' K' hK K
      refine vc_cond (t := false) rfl (fun h => by cases h) (fun _ => ?_)
      refine vc_skip ?_
      refine vc_seq ?_
      refine vc_seq ?_
      by_cases heq : cmpW (r.n * v) (a * r.w) = 0
      · have hTn : joinT l r b = r.n := by
          rw [hT]
          refine join_top hv ?_
          rw [cmpW_eq] at heq
          exact heq
        refine vc_reg (by kernel_rfl) fun K hK => ?_
        refine run_n (z := false) 3 (fun K' hK' => hK' _ _ _ ?_) (by decide)
        clear hK' K'
        refine run_call (k42) rfl rfl rfl rfl ?_
        refine run_n (z := false) 2 (fun K' hK' => hK' _ _ _ ?_) (by decide)
        clear hK' K'
        refine vgo_known 104 (b := true) (bb (by rw [heq]; rfl)) ?_
        refine run_end (z := false) fun K' hK' => hK' _ _ _ (hK _ _ _ ?_)
        clear hK' K' hK K
        refine vc_cond (t := false) (bb (by rw [hTn]; exact fr_neq r.n r.w)) (fun h => by cases h) (fun _ => ?_)
        refine vc_skip ?_
        refine vc_seq ?_
        refine vc_reg (by kernel_rfl) fun K hK => ?_
        refine run_n (z := false) 3 (fun K' hK' => hK' _ _ _ ?_) (by decide)
        clear hK' K'
        refine run_fc (fun _ => (12, 0)) (h49 c3) (hasF ⟨sf_winp (rcs_plain _) rfl get_zero_app, trivial⟩ rfl) rfl rfl rfl rfl ⟨_, _, _, [], Nat.le_refl _, rfl, rfl, rfl⟩ ?_
        rintro _ _ ⟨c4, sp4, _, hp4, rfl, rfl⟩
        rw [renU_c (renB_p (plainL_append (rcs_plain _) hp4)) renU_nil]
        refine run_end (z := false) fun K' hK' => hK' _ _ _ (hK _ _ _ ?_)
        clear hK' K' hK K
        refine vc_seq ?_
        refine vc_reg (by kernel_rfl) fun K hK => ?_
        refine run_n (z := false) 3 (fun K' hK' => hK' _ _ _ ?_) (by decide)
        clear hK' K'
        refine vgo_known 121 (b := true) (rfl) ?_
        refine run_n (z := false) 5 (fun K' hK' => hK' _ _ _ ?_) (by decide)
        clear hK' K'
        refine vgo_known 126 (b := true) (bb ((rn_beq _ _).trans (decide_eq_true rfl))) ?_
        refine run_n (z := false) 2 (fun K' hK' => hK' _ _ _ ?_) (by decide)
        clear hK' K'
        refine run_ro (fun k => if k = 0 then (28, 0) else (2, 0)) (same_ro l c4 c2 (by omega)) ?_ rfl rfl rfl rfl ?_
        · intro x hx
          simp only [List.mem_cons, List.mem_singleton, List.not_mem_nil, or_false] at hx
          rcases hx with rfl | rfl
          · exact ⟨_, _, _, rfl, get_zero_app⟩
          · exact ⟨_, _, _, rfl, fun i v hv => (congrArg (fun k => (rws rc l)[k]?) (Nat.zero_add i)).trans hv⟩
        refine run_end (z := false) fun K' hK' => hK' _ _ _ (hK _ _ _ ?_)
        clear hK' K' hK K
        exact vc_ret ⟨.inr rfl, rfl⟩
      · skip
        refine vc_reg (by kernel_rfl) fun K hK => ?_
        refine run_n (z := false) 3 (fun K' hK' => hK' _ _ _ ?_) (by decide)
        clear hK' K'
        refine run_call (k42) rfl rfl rfl rfl ?_
        refine run_n (z := false) 2 (fun K' hK' => hK' _ _ _ ?_) (by decide)
        clear hK' K'
        refine vgo_known 104 (b := false) (bb (beq_eq_false_iff_ne.2 heq)) ?_
        refine run_end (z := false) fun K' hK' => hK' _ _ _ (hK _ _ _ ?_)
        clear hK' K' hK K
        refine vc_cond (t := false) rfl (fun h => by cases h) (fun _ => ?_)
        refine vc_skip ?_
        refine vc_seq ?_
        refine vc_reg (by kernel_rfl) fun K hK => ?_
        refine run_n (z := false) 3 (fun K' hK' => hK' _ _ _ ?_) (by decide)
        clear hK' K'
        refine run_fc (fun _ => (12, 0)) (h49 c3) (hasF ⟨sf_winp (rcs_plain _) rfl get_zero_app, trivial⟩ rfl) rfl rfl rfl rfl ⟨_, _, _, [], Nat.le_refl _, rfl, rfl, rfl⟩ ?_
        rintro _ _ ⟨c4, sp4, _, hp4, rfl, rfl⟩
        rw [renU_c (renB_p (plainL_append (rcs_plain _) hp4)) renU_nil]
        refine run_end (z := false) fun K' hK' => hK' _ _ _ (hK _ _ _ ?_)
        clear hK' K' hK K
        refine vc_seq ?_
        refine vc_reg (by kernel_rfl) fun K hK => ?_
        refine run_n (z := false) 3 (fun K' hK' => hK' _ _ _ ?_) (by decide)
        clear hK' K'
        refine vgo_known 121 (b := true) (rfl) ?_
        refine run_n (z := false) 5 (fun K' hK' => hK' _ _ _ ?_) (by decide)
        clear hK' K'
        refine vgo_known 126 (b := true) (bb ((rn_beq _ _).trans (decide_eq_true rfl))) ?_
        refine run_n (z := false) 2 (fun K' hK' => hK' _ _ _ ?_) (by decide)
        clear hK' K'
        refine run_ro (fun k => if k = 0 then (28, 0) else (2, 0)) (same_ro l c4 c2 (by omega)) ?_ rfl rfl rfl rfl ?_
        · intro x hx
          simp only [List.mem_cons, List.mem_singleton, List.not_mem_nil, or_false] at hx
          rcases hx with rfl | rfl
          · exact ⟨_, _, _, rfl, get_zero_app⟩
          · exact ⟨_, _, _, rfl, fun i v hv => (congrArg (fun k => (rws rc l)[k]?) (Nat.zero_add i)).trans hv⟩
        refine run_end (z := false) fun K' hK' => hK' _ _ _ (hK _ _ _ ?_)
        clear hK' K' hK K
        exact vc_ret ⟨.inr rfl, rfl⟩
theorem p9nil (r : Rn) (b : Nat) (hb64 : b < 2 ^ 64) : Pure 9 [qnil, rv r, u64 b] (.bool true) := by
  refine pure_of Try.func9 rfl Try.ntmps9 (by kernel_rfl) rfl (by simp) rfl ?_
  refine vc_seq ?_
  refine vc_go (by kernel_rfl) fun K hK => hK _ _ _ ?_
  clear hK K
  refine vc_seq ?_
  refine vc_seq ?_
  refine vc_reg (by kernel_rfl) fun K hK => ?_
  refine run_call (p38) rfl rfl rfl rfl ?_
  refine run_end (z := false) fun K' hK' => hK' _ _ _ (hK _ _ _ ?_)
  clear hK' K' hK K
  refine vc_cond (t := false) rfl (fun h => by cases h) (fun _ => ?_)
  refine vc_skip ?_
  refine vc_seq ?_
  refine vc_reg (by kernel_rfl) fun K hK => ?_
  refine run_n (z := false) 1 (fun K' hK' => hK' _ _ _ ?_) (by decide)
  clear hK' K'
  refine run_fc (fun k => (k, 0)) p39nil (hasF trivial rfl) rfl rfl rfl rfl ⟨_, _, rfl, rfl⟩ ?_
  rintro _ _ ⟨rfl, rfl⟩
  refine run_end (z := false) fun K' hK' => hK' _ _ _ (hK _ _ _ ?_)
  clear hK' K' hK K
  obtain ⟨c2, hc2⟩ : ∃ c2, c2 = 0 := ⟨_, rfl⟩
  obtain ⟨l, hll⟩ : ∃ l : List Rn, l = [] := ⟨_, rfl⟩
  have hlc : l.length ≤ c2 := by rw [hll]; exact Nat.zero_le _
  have hl : l.length ≤ 17 := by rw [hll]; decide
  refine renF (fun k => if k = 0 then 1 else if k = 1 then 4 else 3) [(2, u64 b), (4, .pointer (some ⟨0, 0, none⟩)), (6, .bool false), (7, .pointer (some ⟨1, 0, none⟩))] [(0, .cells (rc r) 67 true), (1, .cells [.slice (some ⟨2, 0, none⟩) l.length c2] 55 true), (2, .cells (rws rc l) 67 false)] 3 (by decide) (fun m hm => absurd hm (Nat.not_lt_zero m)) ⟨rfl, rfl, rfl, rfl, trivial⟩ (by subst hll; subst hc2; exact ⟨sf_ownp (rc_plain r) rfl rfl, sf_own rfl rfl, sf_winp (rcs_plain _) rfl get_zero, trivial⟩) rfl (bdH_c (by decide) (rc_plain r) (bdH_b (by decide) rfl (bdH_c (by decide) (rcs_plain l) rfl))) rfl ?_
  refine vc_seq ?_
  rcases near_cases l r b c2 hl hlc with ⟨e, he, hee, h46⟩ | ⟨he, hq, ht, h46⟩ | ⟨a, v, he, hq, ht, h46⟩
  · have h40 := p40 l c2 (by omega)
    refine vc_reg (by kernel_rfl) fun K hK => ?_
    refine run_n (z := false) 1 (fun K' hK' => hK' _ _ _ ?_) (by decide)
    clear hK' K'
    refine run_ro (fun _ => (2, 0)) (h40) ?_ rfl rfl rfl rfl ?_
    · intro x hx
      simp only [List.mem_singleton] at hx
      subst hx
      exact ⟨_, _, _, rfl, fun i v hv => by rw [Nat.zero_add]; exact hv⟩
    refine run_end (z := false) fun K' hK' => hK' _ _ _ (hK _ _ _ ?_)
    clear hK' K' hK K
    refine vc_seq ?_
    refine vc_reg (by kernel_rfl) fun K hK => ?_
    refine run_n (z := false) 3 (fun K' hK' => hK' _ _ _ ?_) (by decide)
    clear hK' K'
    refine run_fc (fun _ => (2, 0)) h46 (hasF ⟨sf_winp (rcs_plain l) rfl get_zero, trivial⟩ rfl) rfl rfl rfl rfl ⟨_, _, rfl, rfl⟩ ?_
    rintro _ _ ⟨rfl, rfl⟩
    refine run_end (z := false) fun K' hK' => hK' _ _ _ (hK _ _ _ ?_)
    clear hK' K' hK K
    refine vc_seq ?_
    refine vc_seq ?_
    refine vc_go (by kernel_rfl) fun K hK => hK _ _ _ ?_
    clear hK K
    refine vc_cond (t := true) (bb (bne_iff_ne.2 he)) (fun _ => ?_) (fun h => by cases h)
    refine vc_seq ?_
    refine vc_go (by kernel_rfl) fun K hK => hK _ _ _ ?_
    clear hK K
    exact vc_ret ⟨.inr rfl, rfl⟩
  · have h40 := p40 l c2 (by omega)
    rw [topQ_yes hq, ht] at h40
    obtain ⟨jok, jlen, jget, jdel, jat, jq, jb⟩ := joinQ_ok he
    obtain ⟨_, hr, _, hb, hfit⟩ := join_fits he
    have h43 := fun c => p43 (joinQ l r b) c r.id (by omega)
    have h47 := fun c => p47 (joinQ l r b) c (by omega)
    simp only [jq, chk1_yes jok, jlen] at h43 h47
    have hw1 : IntKind.i64.wrap ((l.length : Int) + 1) = ((l.length + 1 : Nat) : Int) := by rw [wrapI (by omega) (by omega)]; omega
    have hT : joinT l r b = r.n := by unfold joinT; rw [ht]
    refine vc_reg (by kernel_rfl) fun K hK => ?_
    refine run_n (z := false) 1 (fun K' hK' => hK' _ _ _ ?_) (by decide)
    clear hK' K'
    refine run_ro (fun _ => (2, 0)) (h40) ?_ rfl rfl rfl rfl ?_
    · intro x hx
      simp only [List.mem_singleton] at hx
      subst hx
      exact ⟨_, _, _, rfl, fun i v hv => by rw [Nat.zero_add]; exact hv⟩
    refine run_end (z := false) fun K' hK' => hK' _ _ _ (hK _ _ _ ?_)
    clear hK' K' hK K
    refine vc_seq ?_
    refine vc_reg (by kernel_rfl) fun K hK => ?_
    refine run_n (z := false) 3 (fun K' hK' => hK' _ _ _ ?_) (by decide)
    clear hK' K'
    refine run_fc (fun _ => (2, 0)) h46 (hasF ⟨sf_winp (rcs_plain l) rfl get_zero, trivial⟩ rfl) rfl rfl rfl rfl ⟨_, _, 0, [], rfl, rfl, rfl⟩ ?_
    rintro _ _ ⟨c3, sp3, hp3, rfl, rfl⟩
    rw [renU_c (renB_p (plainL_append (rcs_plain _) hp3)) renU_nil]
    refine run_end (z := false) fun K' hK' => hK' _ _ _ (hK _ _ _ ?_)
    clear hK' K' hK K
    refine refocusF [(2, u64 b), (4, .pointer (some ⟨0, 0, none⟩)), (6, .bool false), (7, .pointer (some ⟨1, 0, none⟩)), (8, .pointer (some ⟨8, 0, none⟩)), (9, .bool false), (10, .pointer (some ⟨16, 0, none⟩)), (11, .int .i64 0)] [(0, .cells (rc r) 67 true), (1, .cells [.slice (some ⟨2, 0, none⟩) l.length c2] 55 true), (2, .cells (rws rc l) 67 false), (8, .cells (frc 0 0) 58 true), (12, .cells (rws rc (joinQ l r b) ++ sp3) 67 true), (16, .cells [.slice (some ⟨12, 0, none⟩) (l.length + 1) c3] 55 true)] 17 (by decide) ⟨rfl, rfl, rfl, rfl, rfl, rfl, rfl, rfl, trivial⟩ ⟨sb rfl, sb rfl, sb rfl, sb rfl, sb rfl, sb rfl, trivial⟩ rfl (bdH_c (by decide) (rc_plain r) (bdH_b (by decide) rfl (bdH_c (by decide) (rcs_plain l) (bdH_c (by decide) (by rfl) (bdH_c (by decide) (plainL_append (rcs_plain _) hp3) (bdH_b (by decide) rfl rfl)))))) ?_
    refine vc_seq ?_
    refine vc_seq ?_
    refine vc_go (by kernel_rfl) fun K hK => hK _ _ _ ?_
    clear hK K
    refine vc_cond (t := false) rfl (fun h => by cases h) (fun _ => ?_)
    refine vc_skip ?_
    refine vc_seq ?_
    refine vc_reg (by kernel_rfl) fun K hK => ?_
    refine run_n (z := false) 3 (fun K' hK' => hK' _ _ _ ?_) (by decide)
    clear hK' K'
    refine run_ro (fun _ => (12, 0)) ((h43 c3)) ?_ rfl rfl rfl rfl ?_
    · intro x hx
      simp only [List.mem_singleton] at hx
      subst hx
      exact ⟨_, _, _, rfl, get_zero_app⟩
    refine run_end (z := false) fun K' hK' => hK' _ _ _ (hK _ _ _ ?_)
    clear hK' K' hK K
    refine vc_seq ?_
    refine vc_seq ?_
    refine vc_reg (by kernel_rfl) fun K hK => ?_
    refine run_n (z := false) 3 (fun K' hK' => hK' _ _ _ ?_) (by decide)
    clear hK' K'
    refine vgo_known 47 (b := false) (rfl) ?_
    refine run_n (z := false) 1 (fun K' hK' => hK' _ _ _ ?_) (by decide)
    clear hK' K'
    refine run_ro (fun _ => (12, 0)) ((h47 c3)) ?_ rfl rfl rfl rfl ?_
    · intro x hx
      simp only [List.mem_singleton] at hx
      subst hx
      exact ⟨_, _, _, rfl, get_zero_app⟩
    refine run_n (z := false) 3 (fun K' hK' => hK' _ _ _ ?_) (by decide)
    clear hK' K'
    refine vgo_known 52 (b := false) (rfl) ?_
    refine run_n (z := false) 10 (fun K' hK' => hK' _ _ _ ?_) (by decide)
    clear hK' K'
    refine vgo_known 62 (b := false) (bb (by rw [hw1]; simp)) ?_
    refine run_n (z := false) 7 (fun K' hK' => hK' _ _ _ ?_) (by decide)
    clear hK' K'
    refine vgo_known 69 (b := false) (bb (by simp)) ?_
    refine run_end (z := false) fun K' hK' => hK' _ _ _ (hK _ _ _ ?_)
    clear hK' K' hK K
    refine vc_cond (t := false) (bb (by simp)) (fun h => by cases h) (fun _ => ?_)
    refine vc_skip ?_
    refine vc_seq ?_
    refine vc_seq ?_
    refine vc_go (by kernel_rfl) fun K hK => hK _ _ _ ?_
    clear hK K
    refine vc_cond (t := true) rfl (fun _ => ?_) (fun h => by cases h)
    refine vc_seq ?_
    refine vc_go (by kernel_rfl) fun K hK => hK _ _ _ ?_
    clear hK K
    refine vc_ret ⟨.inr rfl, ?_⟩
    exact fin_bb ((rn_beq _ _).trans (decide_eq_true (by rw [hT]; rfl)))
  · have h40 := p40 l c2 (by omega)
    rw [topQ_yes hq, ht] at h40
    obtain ⟨jok, jlen, jget, jdel, jat, jq, jb⟩ := joinQ_ok he
    obtain ⟨_, hr, _, hb, hfit⟩ := join_fits he
    have h43 := fun c => p43 (joinQ l r b) c r.id (by omega)
    have h47 := fun c => p47 (joinQ l r b) c (by omega)
    simp only [jq, chk1_yes jok, jlen] at h43 h47
    have hw1 : IntKind.i64.wrap ((l.length : Int) + 1) = ((l.length + 1 : Nat) : Int) := by rw [wrapI (by omega) (by omega)]; omega
    have hra : rt a v = true := topS_rt (okq_mem hq) (fun x h => by cases h) _ ht
    have hv : 0 < v := (rt_w hra).1
    have hrr : rt r.n r.w = true := okR_rt hr
    have hA := hfit a v ht
    have hT : joinT l r b = joinN a v r.w (b * r.each.toNat) r.n := by unfold joinT; rw [ht]
    have hrT : rt (joinT l r b) r.w = true := rt_mk (rt_wt hrr) (joinT_lt he)
    obtain ⟨n1, n2⟩ := join_near (a := a) (v := v) (w := r.w) (k := b * r.each.toNat) (n := r.n) hv
    rw [← hT] at n1 n2
    have h48 : Pure 48 [fr (joinT l r b) r.w, fr a v] (.bool true) := by
      rcases Nat.eq_zero_or_pos (joinT l r b) with h | h
      · exact p48a hrT hra n1 h
      · refine p48b hrT hra n1 (by omega) ?_
        rcases n2 with n2 | n2
        · omega
        · unfold cmpW
          rw [if_pos n2]
          decide
    have h42 := p42y hrT hra
    have k42 := p42y hrr hra
    have h49 := fun c => leave_ok c (by omega) jok jget
    simp only [jdel, jlen, Nat.add_sub_cancel] at h49
    refine vc_reg (by kernel_rfl) fun K hK => ?_
    refine run_n (z := false) 1 (fun K' hK' => hK' _ _ _ ?_) (by decide)
    clear hK' K'
    refine run_ro (fun _ => (2, 0)) (h40) ?_ rfl rfl rfl rfl ?_
    · intro x hx
      simp only [List.mem_singleton] at hx
      subst hx
      exact ⟨_, _, _, rfl, fun i v hv => by rw [Nat.zero_add]; exact hv⟩
    refine run_end (z := false) fun K' hK' => hK' _ _ _ (hK _ _ _ ?_)
    clear hK' K' hK K
    refine vc_seq ?_
    refine vc_reg (by kernel_rfl) fun K hK => ?_
    refine run_n (z := false) 3 (fun K' hK' => hK' _ _ _ ?_) (by decide)
    clear hK' K'
    refine run_fc (fun _ => (2, 0)) h46 (hasF ⟨sf_winp (rcs_plain l) rfl get_zero, trivial⟩ rfl) rfl rfl rfl rfl ⟨_, _, 0, [], rfl, rfl, rfl⟩ ?_
    rintro _ _ ⟨c3, sp3, hp3, rfl, rfl⟩
    rw [renU_c (renB_p (plainL_append (rcs_plain _) hp3)) renU_nil]
    refine run_end (z := false) fun K' hK' => hK' _ _ _ (hK _ _ _ ?_)
    clear hK' K' hK K
    refine refocusF [(2, u64 b), (4, .pointer (some ⟨0, 0, none⟩)), (6, .bool false), (7, .pointer (some ⟨1, 0, none⟩)), (8, .pointer (some ⟨8, 0, none⟩)), (9, .bool true), (10, .pointer (some ⟨16, 0, none⟩)), (11, .int .i64 0)] [(0, .cells (rc r) 67 true), (1, .cells [.slice (some ⟨2, 0, none⟩) l.length c2] 55 true), (2, .cells (rws rc l) 67 false), (8, .cells (frc a v) 58 true), (12, .cells (rws rc (joinQ l r b) ++ sp3) 67 true), (16, .cells [.slice (some ⟨12, 0, none⟩) (l.length + 1) c3] 55 true)] 17 (by decide) ⟨rfl, rfl, rfl, rfl, rfl, rfl, rfl, rfl, trivial⟩ ⟨sb rfl, sb rfl, sb rfl, sb rfl, sb rfl, sb rfl, trivial⟩ rfl (bdH_c (by decide) (rc_plain r) (bdH_b (by decide) rfl (bdH_c (by decide) (rcs_plain l) (bdH_c (by decide) (by rfl) (bdH_c (by decide) (plainL_append (rcs_plain _) hp3) (bdH_b (by decide) rfl rfl)))))) ?_
    refine vc_seq ?_
    refine vc_seq ?_
    refine vc_go (by kernel_rfl) fun K hK => hK _ _ _ ?_
    clear hK K
    refine vc_cond (t := false) rfl (fun h => by cases h) (fun _ => ?_)
    refine vc_skip ?_
    refine vc_seq ?_
    refine vc_reg (by kernel_rfl) fun K hK => ?_
    refine run_n (z := false) 3 (fun K' hK' => hK' _ _ _ ?_) (by decide)
    clear hK' K'
    refine run_ro (fun _ => (12, 0)) ((h43 c3)) ?_ rfl rfl rfl rfl ?_
    · intro x hx
      simp only [List.mem_singleton] at hx
      subst hx
      exact ⟨_, _, _, rfl, get_zero_app⟩
    refine run_end (z := false) fun K' hK' => hK' _ _ _ (hK _ _ _ ?_)
    clear hK' K' hK K
    refine vc_seq ?_
    refine vc_seq ?_
    refine vc_reg (by kernel_rfl) fun K hK => ?_
    refine run_n (z := false) 3 (fun K' hK' => hK' _ _ _ ?_) (by decide)
    clear hK' K'
    refine vgo_known 47 (b := false) (rfl) ?_
    refine run_n (z := false) 1 (fun K' hK' => hK' _ _ _ ?_) (by decide)
    clear hK' K'
    refine run_ro (fun _ => (12, 0)) ((h47 c3)) ?_ rfl rfl rfl rfl ?_
    · intro x hx
      simp only [List.mem_singleton] at hx
      subst hx
      exact ⟨_, _, _, rfl, get_zero_app⟩
    refine run_n (z := false) 3 (fun K' hK' => hK' _ _ _ ?_) (by decide)
    clear hK' K'
    refine vgo_known 52 (b := false) (rfl) ?_
    refine run_n (z := false) 10 (fun K' hK' => hK' _ _ _ ?_) (by decide)
    clear hK' K'
    refine vgo_known 62 (b := false) (bb (by rw [hw1]; simp)) ?_
    refine run_n (z := false) 7 (fun K' hK' => hK' _ _ _ ?_) (by decide)
    clear hK' K'
    refine vgo_known 69 (b := false) (bb (by simp)) ?_
    refine run_end (z := false) fun K' hK' => hK' _ _ _ (hK _ _ _ ?_)
    clear hK' K' hK K
    refine vc_cond (t := false) (bb (by simp)) (fun h => by cases h) (fun _ => ?_)
    refine vc_skip ?_
    refine vc_seq ?_
    refine vc_seq ?_
    refine vc_go (by kernel_rfl) fun K hK => hK _ _ _ ?_
    clear hK K
    refine vc_cond (t := false) rfl (fun h => by cases h) (fun _ => ?_)
    refine vc_skip ?_
    refine vc_seq ?_
    refine vc_seq ?_
    by_cases hb0 : b = 0
    · have hz : cmpW (joinT l r b * v) (a * r.w) < 0 → False := by
        intro h
        rw [hT, hb0, Nat.zero_mul, join_zero] at h
        have := sc_ge' (a := a) (m := r.w) (d := v) hv
        unfold cmpW at h
        split at h
        · omega
        · split at h <;> simp at h
      refine vc_reg (by kernel_rfl) fun K hK => ?_
      refine run_n (z := false) 3 (fun K' hK' => hK' _ _ _ ?_) (by decide)
      clear hK' K'
      refine run_call (h48) rfl rfl rfl rfl ?_
      refine run_n (z := false) 2 (fun K' hK' => hK' _ _ _ ?_) (by decide)
      clear hK' K'
      refine vgo_known 88 (b := false) (rfl) ?_
      refine run_n (z := false) 3 (fun K' hK' => hK' _ _ _ ?_) (by decide)
      clear hK' K'
      refine vgo_known 91 (b := true) (bb (by simp [hb0])) ?_
      refine run_n (z := false) 3 (fun K' hK' => hK' _ _ _ ?_) (by decide)
      clear hK' K'
      refine run_call (h42) rfl rfl rfl rfl ?_
      refine run_end (z := false) fun K' hK' => hK' _ _ _ (hK _ _ _ ?_)
      clear hK' K' hK K
      refine vc_cond (t := false) (bb (decide_eq_false hz)) (fun h => by cases h) (fun _ => ?_)
      refine vc_skip ?_
      refine vc_seq ?_
      refine vc_seq ?_
      by_cases heq : cmpW (r.n * v) (a * r.w) = 0
      · have hTn : joinT l r b = r.n := by
          rw [hT]
          refine join_top hv ?_
          rw [cmpW_eq] at heq
          exact heq
        refine vc_reg (by kernel_rfl) fun K hK => ?_
        refine run_n (z := false) 3 (fun K' hK' => hK' _ _ _ ?_) (by decide)
        clear hK' K'
        refine run_call (k42) rfl rfl rfl rfl ?_
        refine run_n (z := false) 2 (fun K' hK' => hK' _ _ _ ?_) (by decide)
        clear hK' K'
        refine vgo_known 104 (b := true) (bb (by rw [heq]; rfl)) ?_
        refine run_end (z := false) fun K' hK' => hK' _ _ _ (hK _ _ _ ?_)
        clear hK' K' hK K
        refine vc_cond (t := false) (bb (by rw [hTn]; exact fr_neq r.n r.w)) (fun h => by cases h) (fun _ => ?_)
        refine vc_skip ?_
        refine vc_seq ?_
        refine vc_reg (by kernel_rfl) fun K hK => ?_
        refine run_n (z := false) 3 (fun K' hK' => hK' _ _ _ ?_) (by decide)
        clear hK' K'
        refine run_fc (fun _ => (12, 0)) (h49 c3) (hasF ⟨sf_winp (rcs_plain _) rfl get_zero_app, trivial⟩ rfl) rfl rfl rfl rfl ⟨_, _, _, [], Nat.le_refl _, rfl, rfl, rfl⟩ ?_
        rintro _ _ ⟨c4, sp4, _, hp4, rfl, rfl⟩
        rw [renU_c (renB_p (plainL_append (rcs_plain _) hp4)) renU_nil]
        refine run_end (z := false) fun K' hK' => hK' _ _ _ (hK _ _ _ ?_)
        clear hK' K' hK K
        refine vc_seq ?_
        refine vc_reg (by kernel_rfl) fun K hK => ?_
        refine run_n (z := false) 3 (fun K' hK' => hK' _ _ _ ?_) (by decide)
        clear hK' K'
        refine vgo_known 121 (b := true) (rfl) ?_
        refine run_n (z := false) 5 (fun K' hK' => hK' _ _ _ ?_) (by decide)
        clear hK' K'
        refine vgo_known 126 (b := true) (bb ((rn_beq _ _).trans (decide_eq_true rfl))) ?_
        refine run_n (z := false) 2 (fun K' hK' => hK' _ _ _ ?_) (by decide)
        clear hK' K'
        refine run_ro (fun k => if k = 0 then (28, 0) else (2, 0)) (same_ro l c4 c2 (by omega)) ?_ rfl rfl rfl rfl ?_
        · intro x hx
          simp only [List.mem_cons, List.mem_singleton, List.not_mem_nil, or_false] at hx
          rcases hx with rfl | rfl
          · exact ⟨_, _, _, rfl, get_zero_app⟩
          · exact ⟨_, _, _, rfl, fun i v hv => (congrArg (fun k => (rws rc l)[k]?) (Nat.zero_add i)).trans hv⟩
        refine run_end (z := false) fun K' hK' => hK' _ _ _ (hK _ _ _ ?_)
        clear hK' K' hK K
        exact vc_ret ⟨.inr rfl, rfl⟩
      · skip
        refine vc_reg (by kernel_rfl) fun K hK => ?_
        refine run_n (z := false) 3 (fun K' hK' => hK' _ _ _ ?_) (by decide)
        clear hK' K'
        refine run_call (k42) rfl rfl rfl rfl ?_
        refine run_n (z := false) 2 (fun K' hK' => hK' _ _ _ ?_) (by decide)
        clear hK' K'
        refine vgo_known 104 (b := false) (bb (beq_eq_false_iff_ne.2 heq)) ?_
        refine run_end (z := false) fun K' hK' => hK' _ _ _ (hK _ _ _ ?_)
        clear hK' K' hK K
        refine vc_cond (t := false) rfl (fun h => by cases h) (fun _ => ?_)
        refine vc_skip ?_
        refine vc_seq ?_
        refine vc_reg (by kernel_rfl) fun K hK => ?_
        refine run_n (z := false) 3 (fun K' hK' => hK' _ _ _ ?_) (by decide)
        clear hK' K'
        refine run_fc (fun _ => (12, 0)) (h49 c3) (hasF ⟨sf_winp (rcs_plain _) rfl get_zero_app, trivial⟩ rfl) rfl rfl rfl rfl ⟨_, _, _, [], Nat.le_refl _, rfl, rfl, rfl⟩ ?_
        rintro _ _ ⟨c4, sp4, _, hp4, rfl, rfl⟩
        rw [renU_c (renB_p (plainL_append (rcs_plain _) hp4)) renU_nil]
        refine run_end (z := false) fun K' hK' => hK' _ _ _ (hK _ _ _ ?_)
        clear hK' K' hK K
        refine vc_seq ?_
        refine vc_reg (by kernel_rfl) fun K hK => ?_
        refine run_n (z := false) 3 (fun K' hK' => hK' _ _ _ ?_) (by decide)
        clear hK' K'
        refine vgo_known 121 (b := true) (rfl) ?_
        refine run_n (z := false) 5 (fun K' hK' => hK' _ _ _ ?_) (by decide)
        clear hK' K'
        refine vgo_known 126 (b := true) (bb ((rn_beq _ _).trans (decide_eq_true rfl))) ?_
        refine run_n (z := false) 2 (fun K' hK' => hK' _ _ _ ?_) (by decide)
        clear hK' K'
        refine run_ro (fun k => if k = 0 then (28, 0) else (2, 0)) (same_ro l c4 c2 (by omega)) ?_ rfl rfl rfl rfl ?_
        · intro x hx
          simp only [List.mem_cons, List.mem_singleton, List.not_mem_nil, or_false] at hx
          rcases hx with rfl | rfl
          · exact ⟨_, _, _, rfl, get_zero_app⟩
          · exact ⟨_, _, _, rfl, fun i v hv => (congrArg (fun k => (rws rc l)[k]?) (Nat.zero_add i)).trans hv⟩
        refine run_end (z := false) fun K' hK' => hK' _ _ _ (hK _ _ _ ?_)
        clear hK' K' hK K
        exact vc_ret ⟨.inr rfl, rfl⟩
    · skip
      refine vc_reg (by kernel_rfl) fun K hK => ?_
      refine run_n (z := false) 3 (fun K' hK' => hK' _ _ _ ?_) (by decide)
      clear hK' K'
      refine run_call (h48) rfl rfl rfl rfl ?_
      refine run_n (z := false) 2 (fun K' hK' => hK' _ _ _ ?_) (by decide)
      clear hK' K'
      refine vgo_known 88 (b := false) (rfl) ?_
      refine run_n (z := false) 3 (fun K' hK' => hK' _ _ _ ?_) (by decide)
      clear hK' K'
      refine vgo_known 91 (b := false) (bb (by simp; omega)) ?_
      refine run_end (z := false) fun K' hK' => hK' _ _ _ (hK _ _ _ ?_)
      clear hK' K' hK K
      refine vc_cond (t := false) rfl (fun h => by cases h) (fun _ => ?_)
      refine vc_skip ?_
      refine vc_seq ?_
      refine vc_seq ?_
      by_cases heq : cmpW (r.n * v) (a * r.w) = 0
      · have hTn : joinT l r b = r.n := by
          rw [hT]
          refine join_top hv ?_
          rw [cmpW_eq] at heq
          exact heq
        refine vc_reg (by kernel_rfl) fun K hK => ?_
        refine run_n (z := false) 3 (fun K' hK' => hK' _ _ _ ?_) (by decide)
        clear hK' K'
        refine run_call (k42) rfl rfl rfl rfl ?_
        refine run_n (z := false) 2 (fun K' hK' => hK' _ _ _ ?_) (by decide)
        clear hK' K'
        refine vgo_known 104 (b := true) (bb (by rw [heq]; rfl)) ?_
        refine run_end (z := false) fun K' hK' => hK' _ _ _ (hK _ _ _ ?_)
        clear hK' K' hK K
        refine vc_cond (t := false) (bb (by rw [hTn]; exact fr_neq r.n r.w)) (fun h => by cases h) (fun _ => ?_)
        refine vc_skip ?_
        refine vc_seq ?_
        refine vc_reg (by kernel_rfl) fun K hK => ?_
        refine run_n (z := false) 3 (fun K' hK' => hK' _ _ _ ?_) (by decide)
        clear hK' K'
        refine run_fc (fun _ => (12, 0)) (h49 c3) (hasF ⟨sf_winp (rcs_plain _) rfl get_zero_app, trivial⟩ rfl) rfl rfl rfl rfl ⟨_, _, _, [], Nat.le_refl _, rfl, rfl, rfl⟩ ?_
        rintro _ _ ⟨c4, sp4, _, hp4, rfl, rfl⟩
        rw [renU_c (renB_p (plainL_append (rcs_plain _) hp4)) renU_nil]
        refine run_end (z := false) fun K' hK' => hK' _ _ _ (hK _ _ _ ?_)
        clear hK' K' hK K
        refine vc_seq ?_
        refine vc_reg (by kernel_rfl) fun K hK => ?_
        refine run_n (z := false) 3 (fun K' hK' => hK' _ _ _ ?_) (by decide)
        clear hK' K'
        refine vgo_known 121 (b := true) (rfl) ?_
        refine run_n (z := false) 5 (fun K' hK' => hK' _ _ _ ?_) (by decide)
        clear hK' K'
        refine vgo_known 126 (b := true) (bb ((rn_beq _ _).trans (decide_eq_true rfl))) ?_
        refine run_n (z := false) 2 (fun K' hK' => hK' _ _ _ ?_) (by decide)
        clear hK' K'
        refine run_ro (fun k => if k = 0 then (28, 0) else (2, 0)) (same_ro l c4 c2 (by omega)) ?_ rfl rfl rfl rfl ?_
        · intro x hx
          simp only [List.mem_cons, List.mem_singleton, List.not_mem_nil, or_false] at hx
          rcases hx with rfl | rfl
          · exact ⟨_, _, _, rfl, get_zero_app⟩
          · exact ⟨_, _, _, rfl, fun i v hv => (congrArg (fun k => (rws rc l)[k]?) (Nat.zero_add i)).trans hv⟩
        refine run_end (z := false) fun K' hK' => hK' _ _ _ (hK _ _ _ ?_)
        clear hK' K' hK K
        exact vc_ret ⟨.inr rfl, rfl⟩
      · skip
        refine vc_reg (by kernel_rfl) fun K hK => ?_
        refine run_n (z := false) 3 (fun K' hK' => hK' _ _ _ ?_) (by decide)
        clear hK' K'
        refine run_call (k42) rfl rfl rfl rfl ?_
        refine run_n (z := false) 2 (fun K' hK' => hK' _ _ _ ?_) (by decide)
        clear hK' K'
        refine vgo_known 104 (b := false) (bb (beq_eq_false_iff_ne.2 heq)) ?_
        refine run_end (z := false) fun K' hK' => hK' _ _ _ (hK _ _ _ ?_)
        clear hK' K' hK K
        refine vc_cond (t := false) rfl (fun h => by cases h) (fun _ => ?_)
        refine vc_skip ?_
        refine vc_seq ?_
        refine vc_reg (by kernel_rfl) fun K hK => ?_
        refine run_n (z := false) 3 (fun K' hK' => hK' _ _ _ ?_) (by decide)
        clear hK' K'
        refine run_fc (fun _ => (12, 0)) (h49 c3) (hasF ⟨sf_winp (rcs_plain _) rfl get_zero_app, trivial⟩ rfl) rfl rfl rfl rfl ⟨_, _, _, [], Nat.le_refl _, rfl, rfl, rfl⟩ ?_
        rintro _ _ ⟨c4, sp4, _, hp4, rfl, rfl⟩
        rw [renU_c (renB_p (plainL_append (rcs_plain _) hp4)) renU_nil]
        refine run_end (z := false) fun K' hK' => hK' _ _ _ (hK _ _ _ ?_)
        clear hK' K' hK K
        refine vc_seq ?_
        refine vc_reg (by kernel_rfl) fun K hK => ?_
        refine run_n (z := false) 3 (fun K' hK' => hK' _ _ _ ?_) (by decide)
        clear hK' K'
        refine vgo_known 121 (b := true) (rfl) ?_
        refine run_n (z := false) 5 (fun K' hK' => hK' _ _ _ ?_) (by decide)
        clear hK' K'
        refine vgo_known 126 (b := true) (bb ((rn_beq _ _).trans (decide_eq_true rfl))) ?_
        refine run_n (z := false) 2 (fun K' hK' => hK' _ _ _ ?_) (by decide)
        clear hK' K'
        refine run_ro (fun k => if k = 0 then (28, 0) else (2, 0)) (same_ro l c4 c2 (by omega)) ?_ rfl rfl rfl rfl ?_
        · intro x hx
          simp only [List.mem_cons, List.mem_singleton, List.not_mem_nil, or_false] at hx
          rcases hx with rfl | rfl
          · exact ⟨_, _, _, rfl, get_zero_app⟩
          · exact ⟨_, _, _, rfl, fun i v hv => (congrArg (fun k => (rws rc l)[k]?) (Nat.zero_add i)).trans hv⟩
        refine run_end (z := false) fun K' hK' => hK' _ _ _ (hK _ _ _ ?_)
        clear hK' K' hK K
        exact vc_ret ⟨.inr rfl, rfl⟩
end Go.Proofs.Ytdfkcijholopoaa.Vm
namespace Go.Proofs.Ytdfkcijholopoaa.Vm
open Go Go.RowKit
set_option maxRecDepth 10000
set_option linter.unusedSimpArgs false
set_option linter.unusedVariables false

theorem p116a {x : Int} (h : x < 1) : Pure 116 [.int .i64 x] (.bool false) := by
  refine pure_of Try.func116 rfl Try.ntmps116 (by kernel_rfl) rfl (by simp) rfl ?_
  refine vc_seq ?_
  refine vc_go (by kernel_rfl) fun K hK => hK _ _ _ ?_
  clear hK K
  refine vc_seq ?_
  refine vc_reg (by kernel_rfl) fun K hK => ?_
  refine run_n (z := false) 3 (fun K' hK' => hK' _ _ _ ?_) (by decide)
  clear hK' K'
  refine vgo_known 5 (b := false) (bb (decide_eq_false (by omega))) ?_
  refine run_end (z := false) fun K' hK' => hK' _ _ _ (hK _ _ _ ?_)
  clear hK' K' hK K
  refine vc_ret ⟨.inr rfl, ?_⟩
  rfl
theorem p116b {x : Int} (h : 1 ≤ x) (g : 16 < x) : Pure 116 [.int .i64 x] (.bool false) := by
  refine pure_of Try.func116 rfl Try.ntmps116 (by kernel_rfl) rfl (by simp) rfl ?_
  refine vc_seq ?_
  refine vc_go (by kernel_rfl) fun K hK => hK _ _ _ ?_
  clear hK K
  refine vc_seq ?_
  refine vc_reg (by kernel_rfl) fun K hK => ?_
  refine run_n (z := false) 3 (fun K' hK' => hK' _ _ _ ?_) (by decide)
  clear hK' K'
  refine vgo_known 5 (b := true) (bb (decide_eq_true (by omega))) ?_
  refine run_end (z := false) fun K' hK' => hK' _ _ _ (hK _ _ _ ?_)
  clear hK' K' hK K
  refine vc_ret ⟨.inr rfl, ?_⟩
  exact fin_bb (by first | rfl | exact decide_eq_false (by omega))
theorem p116c {x : Int} (h : 1 ≤ x ∧ x ≤ 16) : Pure 116 [.int .i64 x] (.bool true) := by
  refine pure_of Try.func116 rfl Try.ntmps116 (by kernel_rfl) rfl (by simp) rfl ?_
  refine vc_seq ?_
  refine vc_go (by kernel_rfl) fun K hK => hK _ _ _ ?_
  clear hK K
  refine vc_seq ?_
  refine vc_reg (by kernel_rfl) fun K hK => ?_
  refine run_n (z := false) 3 (fun K' hK' => hK' _ _ _ ?_) (by decide)
  clear hK' K'
  refine vgo_known 5 (b := true) (bb (decide_eq_true (by omega))) ?_
  refine run_end (z := false) fun K' hK' => hK' _ _ _ (hK _ _ _ ?_)
  clear hK' K' hK K
  refine vc_ret ⟨.inr rfl, ?_⟩
  exact fin_bb (decide_eq_true h.2)
theorem p116 (x : Int) : Pure 116 [.int .i64 x] (.bool (inI x 16)) := by
  by_cases h : x < 1
  · rw [show inI x 16 = false from decide_eq_false (by omega)]
    exact p116a h
  by_cases g : 16 < x
  · rw [show inI x 16 = false from decide_eq_false (by omega)]
    exact p116b (by omega) g
  · rw [show inI x 16 = true from decide_eq_true (by omega)]
    exact p116c (by omega)

theorem p76a {r : Rn} (h : inI r.id 16 = false) : Pure 76 [rv r] (.bool false) := by
  have h116 := p116 r.id
  rw [h] at h116
  refine pure_of Try.func76 rfl Try.ntmps76 (by kernel_rfl) rfl (by simp) rfl ?_
  refine vc_seq ?_
  refine vc_go (by kernel_rfl) fun K hK => hK _ _ _ ?_
  clear hK K
  refine vc_seq ?_
  refine vc_reg (by kernel_rfl) fun K hK => ?_
  refine run_n (z := false) 2 (fun K' hK' => hK' _ _ _ ?_) (by decide)
  clear hK' K'
  refine run_call (h116) rfl rfl rfl rfl ?_
  refine run_n (z := false) 1 (fun K' hK' => hK' _ _ _ ?_) (by decide)
  clear hK' K'
  refine vgo_known 6 (b := false) (rfl) ?_
  refine run_n (z := false) 5 (fun K' hK' => hK' _ _ _ ?_) (by decide)
  clear hK' K'
  refine vgo_known 11 (b := false) (rfl) ?_
  refine run_n (z := false) 5 (fun K' hK' => hK' _ _ _ ?_) (by decide)
  clear hK' K'
  refine vgo_known 16 (b := false) (rfl) ?_
  refine run_end (z := false) fun K' hK' => hK' _ _ _ (hK _ _ _ ?_)
  clear hK' K' hK K
  exact vc_ret ⟨.inr rfl, rfl⟩
theorem p76b {r : Rn} (h : inI r.id 16 = true) (g : r.each < 1) : Pure 76 [rv r] (.bool false) := by
  have h116 := p116 r.id
  rw [h] at h116
  refine pure_of Try.func76 rfl Try.ntmps76 (by kernel_rfl) rfl (by simp) rfl ?_
  refine vc_seq ?_
  refine vc_go (by kernel_rfl) fun K hK => hK _ _ _ ?_
  clear hK K
  refine vc_seq ?_
  refine vc_reg (by kernel_rfl) fun K hK => ?_
  refine run_n (z := false) 2 (fun K' hK' => hK' _ _ _ ?_) (by decide)
  clear hK' K'
  refine run_call (h116) rfl rfl rfl rfl ?_
  refine run_n (z := false) 1 (fun K' hK' => hK' _ _ _ ?_) (by decide)
  clear hK' K'
  refine vgo_known 6 (b := true) (rfl) ?_
  refine run_n (z := false) 5 (fun K' hK' => hK' _ _ _ ?_) (by decide)
  clear hK' K'
  refine vgo_known 11 (b := false) (bb (decide_eq_false (by omega))) ?_
  refine run_n (z := false) 5 (fun K' hK' => hK' _ _ _ ?_) (by decide)
  clear hK' K'
  refine vgo_known 16 (b := false) (rfl) ?_
  refine run_end (z := false) fun K' hK' => hK' _ _ _ (hK _ _ _ ?_)
  clear hK' K' hK K
  exact vc_ret ⟨.inr rfl, rfl⟩
theorem p76c {r : Rn} (h : inI r.id 16 = true) (g : 1 ≤ r.each) (k : 8 < r.each) : Pure 76 [rv r] (.bool false) := by
  have h116 := p116 r.id
  rw [h] at h116
  refine pure_of Try.func76 rfl Try.ntmps76 (by kernel_rfl) rfl (by simp) rfl ?_
  refine vc_seq ?_
  refine vc_go (by kernel_rfl) fun K hK => hK _ _ _ ?_
  clear hK K
  refine vc_seq ?_
  refine vc_reg (by kernel_rfl) fun K hK => ?_
  refine run_n (z := false) 2 (fun K' hK' => hK' _ _ _ ?_) (by decide)
  clear hK' K'
  refine run_call (h116) rfl rfl rfl rfl ?_
  refine run_n (z := false) 1 (fun K' hK' => hK' _ _ _ ?_) (by decide)
  clear hK' K'
  refine vgo_known 6 (b := true) (rfl) ?_
  refine run_n (z := false) 5 (fun K' hK' => hK' _ _ _ ?_) (by decide)
  clear hK' K'
  refine vgo_known 11 (b := true) (bb (decide_eq_true (by omega))) ?_
  refine run_n (z := false) 5 (fun K' hK' => hK' _ _ _ ?_) (by decide)
  clear hK' K'
  refine vgo_known 16 (b := false) (bb (decide_eq_false (by omega))) ?_
  refine run_end (z := false) fun K' hK' => hK' _ _ _ (hK _ _ _ ?_)
  clear hK' K' hK K
  exact vc_ret ⟨.inr rfl, rfl⟩
theorem p76d {r : Rn} (h : inI r.id 16 = true) (g : 1 ≤ r.each ∧ r.each ≤ 8) : Pure 76 [rv r] (.bool (rt r.n r.w)) := by
  have h116 := p116 r.id
  rw [h] at h116
  refine pure_of Try.func76 rfl Try.ntmps76 (by kernel_rfl) rfl (by simp) rfl ?_
  refine vc_seq ?_
  refine vc_go (by kernel_rfl) fun K hK => hK _ _ _ ?_
  clear hK K
  refine vc_seq ?_
  refine vc_reg (by kernel_rfl) fun K hK => ?_
  refine run_n (z := false) 2 (fun K' hK' => hK' _ _ _ ?_) (by decide)
  clear hK' K'
  refine run_call (h116) rfl rfl rfl rfl ?_
  refine run_n (z := false) 1 (fun K' hK' => hK' _ _ _ ?_) (by decide)
  clear hK' K'
  refine vgo_known 6 (b := true) (rfl) ?_
  refine run_n (z := false) 5 (fun K' hK' => hK' _ _ _ ?_) (by decide)
  clear hK' K'
  refine vgo_known 11 (b := true) (bb (decide_eq_true (by omega))) ?_
  refine run_n (z := false) 5 (fun K' hK' => hK' _ _ _ ?_) (by decide)
  clear hK' K'
  refine vgo_known 16 (b := true) (bb (decide_eq_true (by omega))) ?_
  refine run_n (z := false) 2 (fun K' hK' => hK' _ _ _ ?_) (by decide)
  clear hK' K'
  refine run_call (p55 _ _) rfl rfl rfl rfl ?_
  refine run_end (z := false) fun K' hK' => hK' _ _ _ (hK _ _ _ ?_)
  clear hK' K' hK K
  exact vc_ret ⟨.inr rfl, rfl⟩
theorem p76 (r : Rn) : Pure 76 [rv r] (.bool (okR r)) := by
  unfold okR
  cases h : inI r.id 16
  · exact p76a h
  · by_cases g : r.each < 1
    · rw [show inI r.each 8 = false from decide_eq_false (by omega)]
      exact p76b h g
    by_cases k : 8 < r.each
    · rw [show inI r.each 8 = false from decide_eq_false (by omega)]
      exact p76c h (by omega) k
    · rw [show inI r.each 8 = true from decide_eq_true (by omega)]
      exact p76d h (by omega)

end Go.Proofs.Ytdfkcijholopoaa.Vm
namespace Go.Proofs.Ytdfkcijholopoaa.Vm
open Go Go.RowKit
set_option maxRecDepth 10000
set_option linter.unusedSimpArgs false
set_option linter.unusedVariables false


/-- The place of a number, or -1. -/
def fndI : Nat → List Rn → Int → Int
  | _, [], _ => -1
  | k, r :: l, t => if r.id = t then (k : Int) else fndI (k + 1) l t
theorem fndI_hit {l : List Rn} {j : Nat} {r : Rn} {t : Int} (hr : l[j]? = some r) (h : (r.id == t) = true) : fndI j (l.drop j) t = (j : Int) := by
  rw [drop_cons hr, fndI, if_pos (by simpa using h)]
theorem fndI_miss {l : List Rn} {j : Nat} {r : Rn} {t : Int} (hr : l[j]? = some r) (h : (r.id == t) = false) : fndI j (l.drop j) t = fndI (j + 1) (l.drop (j + 1)) t := by
  rw [drop_cons hr, fndI, if_neg (by simpa using h)]
/-- All runners are right, and their numbers rise. -/
def rgtI : Option Int → List Rn → Bool
  | _, [] => true
  | last, r :: l => okR r && (match last with | none => true | some a => decide (a < r.id)) && rgtI (some r.id) l


theorem p115 (l : List Rn) (c : Nat) (t : Int) (hl : l.length < 2 ^ 60) : RO 115 [qv 0 l.length c, .int .i64 t] [(0, rws rc l)] (.int .i64 (fndI 0 l t)) := by
  refine ro_of _ 1 Try.func115 rfl Try.ntmps115 (by kernel_rfl) (by simp) rfl rfl (by simp) (by simp [rcs_plain]) ?_
  refine vc_seq ?_
  refine vc_go (by kernel_rfl) fun K hK => hK _ _ _ ?_
  clear hK K
  refine vc_seq ?_
  refine vc_seq ?_
  refine vc_go (by kernel_rfl) fun K hK => hK _ _ _ ?_
  clear hK K
  refine vc_block ?_
  refine vc_loopF (fun n s => ∃ (j : Nat), n = l.length - j ∧ j ≤ l.length ∧ fndI 0 l t = fndI j (l.drop j) t ∧ s = can [(1, .int .i64 t), (8, .slice (some ⟨0, 0, none⟩) l.length c), (9, .int .i64 (l.length : Int)), (10, .int .i64 ((j : Nat) : Int))] [(0, .cells (rws rc l) 0 false)] 1) l.length ?_ ?_
  · exact ⟨_, fg_focus [(1, .int .i64 t), (8, .slice (some ⟨0, 0, none⟩) l.length c), (9, .int .i64 (l.length : Int)), (10, .int .i64 ((0 : Nat) : Int))] [(0, .cells (rws rc l) 0 false)] 1 (by decide) ⟨rfl, rfl, rfl, rfl, trivial⟩ ⟨sb rfl, trivial⟩ rfl (bdH_c (by decide) (rcs_plain l) rfl), 0, rfl, Nat.zero_le _, rfl, rfl⟩
  · rintro n s ⟨j, hn, hj, hf, rfl⟩
    refine vc_seq ?_
    refine vc_go (by kernel_rfl) fun K hK => hK _ _ _ ?_
    clear hK K
    refine vc_seq ?_
    refine vc_cond rfl (fun c0 => ?_) (fun c0 => ?_)
    · -- cond 0 t11 true
      refine vc_skip ?_
      refine vc_seq ?_
      refine vc_block ?_
      refine vc_seq ?_
      have hlt := len_le c0
      obtain ⟨r, hr⟩ : ∃ r, l[j]? = some r := ⟨l[j], List.getElem?_eq_getElem hlt⟩
      refine vc_reg (by kernel_rfl) fun K hK => ?_
      refine run_n (z := false) 1 (fun K' hK' => hK' _ _ _ ?_) (by decide)
      clear hK' K'
      refine run_op (vex_ixs (j := j) rfl rfl rfl hlt rfl rfl) rfl ?_
      refine run_rd (vex_ldr rc_len (j := 0) (i := j) (d := rc r) rfl (Nat.zero_add _) rfl (rws_win rc l) rfl hr (by decide) rfl) rfl ?_
      refine run_end (z := false) fun K' hK' => hK' _ _ _ (hK _ _ _ ?_)
      clear hK' K' hK K
      refine vc_seq ?_
      refine vc_go (by kernel_rfl) fun K hK => hK _ _ _ ?_
      clear hK K
      refine vc_cond rfl (fun miss => ?_) (fun miss => ?_)
      · -- cond 1 t18 true
        refine vc_seq ?_
        refine vc_go (by kernel_rfl) fun K hK => hK _ _ _ ?_
        clear hK K
        refine vc_ret ⟨.inr rfl, ?_⟩
        exact congrArg (fun x => some (Value.int .i64 x)) ((hf.trans (fndI_hit hr miss)).symm)
      · -- cond 1 t18 false
        refine vc_skip ?_
        refine vc_go (by kernel_rfl) fun K hK => hK _ _ _ ?_
        clear hK K
        exact ⟨_, fg_focus [(1, .int .i64 t), (8, .slice (some ⟨0, 0, none⟩) l.length c), (9, .int .i64 (l.length : Int)), (10, .int .i64 ((j + 1 : Nat) : Int))] [(0, .cells (rws rc l) 0 false)] 1 (by decide) ⟨rfl, rfl, rfl, ii (wrapI (by omega) (by omega)), trivial⟩ ⟨sb rfl, trivial⟩ rfl (bdH_c (by decide) (rcs_plain l) rfl), l.length - (j + 1), by omega, j + 1, rfl, hlt, hf.trans (fndI_miss hr miss), rfl⟩
    · -- cond 0 t11 false
      refine vc_exit ?_
      refine vc_seq ?_
      refine vc_go (by kernel_rfl) fun K hK => hK _ _ _ ?_
      clear hK K
      refine vc_ret ⟨.inr rfl, ?_⟩
      have hge := len_ge c0
      obtain rfl : j = l.length := by omega
      rw [List.drop_length] at hf
      exact congrArg (fun x => some (Value.int .i64 x)) hf.symm

theorem fndI_find (t : Int) : ∀ (l : List Rn) (k : Nat), (l.find? (fun r => r.id == t) = none ∧ fndI k l t = -1) ∨ ∃ (i : Nat) (r : Rn), l.find? (fun r => r.id == t) = some r ∧ l[i]? = some r ∧ fndI k l t = ((k + i : Nat) : Int)
  | [], k => .inl ⟨rfl, rfl⟩
  | r :: l, k => by
    by_cases h : r.id = t
    · exact .inr ⟨0, r, by simp [h], rfl, by rw [fndI, if_pos h]; rfl⟩
    · have hb : (r.id == t) = false := by simpa using h
      rw [List.find?_cons, hb]
      simp only
      rw [fndI, if_neg h]
      rcases fndI_find t l (k + 1) with ⟨h1, h2⟩ | ⟨i, x, h1, h2, h3⟩
      · exact .inl ⟨h1, h2⟩
      · exact .inr ⟨i + 1, x, h1, by simpa using h2, by rw [h3]; congr 1; omega⟩


theorem p74a {l : List Rn} (c : Nat) (t : Int) (hl : l.length < 2 ^ 60) (h : fndI 0 l t = -1) : RO 74 [qv 0 l.length c, .int .i64 t] [(0, rws rc l)] (.tuple #[rv z0, .bool false]) := by
  have h115 := p115 l c t hl
  rw [h] at h115
  refine ro_of _ 1 Try.func74 rfl Try.ntmps74 (by kernel_rfl) (by simp) rfl rfl (by simp) (by simp [rcs_plain]) ?_
  refine vc_seq ?_
  refine vc_go (by kernel_rfl) fun K hK => hK _ _ _ ?_
  clear hK K
  refine vc_seq ?_
  refine vc_seq ?_
  refine vc_reg (by kernel_rfl) fun K hK => ?_
  refine run_n (z := false) 2 (fun K' hK' => hK' _ _ _ ?_) (by decide)
  clear hK' K'
  refine run_ro (fun _ => (0, 0)) (h115) ?_ rfl rfl rfl rfl ?_
  · intro x hx
    simp only [List.mem_singleton] at hx
    subst hx
    exact ⟨_, _, _, rfl, fun i v hv => by rw [Nat.zero_add]; exact hv⟩
  refine run_end (z := false) fun K' hK' => hK' _ _ _ (hK _ _ _ ?_)
  clear hK' K' hK K
  refine vc_seq ?_
  refine vc_go (by kernel_rfl) fun K hK => hK _ _ _ ?_
  clear hK K
  refine vc_cond (t := false) rfl (fun h => by cases h) (fun _ => ?_)
  refine vc_skip ?_
  refine vc_seq ?_
  refine vc_go (by kernel_rfl) fun K hK => hK _ _ _ ?_
  clear hK K
  exact vc_ret ⟨.inr rfl, rfl⟩

theorem p74b {l : List Rn} (c : Nat) (t : Int) (hl : l.length < 2 ^ 60) {i : Nat} {r : Rn} (h : fndI 0 l t = (i : Int)) (hr : l[i]? = some r) : RO 74 [qv 0 l.length c, .int .i64 t] [(0, rws rc l)] (.tuple #[rv r, .bool true]) := by
  have h115 := p115 l c t hl
  rw [h] at h115
  have hi : i < l.length := (List.getElem?_eq_some_iff.1 hr).1
  refine ro_of _ 1 Try.func74 rfl Try.ntmps74 (by kernel_rfl) (by simp) rfl rfl (by simp) (by simp [rcs_plain]) ?_
  refine vc_seq ?_
  refine vc_go (by kernel_rfl) fun K hK => hK _ _ _ ?_
  clear hK K
  refine vc_seq ?_
  refine vc_seq ?_
  refine vc_reg (by kernel_rfl) fun K hK => ?_
  refine run_n (z := false) 2 (fun K' hK' => hK' _ _ _ ?_) (by decide)
  clear hK' K'
  refine run_ro (fun _ => (0, 0)) (h115) ?_ rfl rfl rfl rfl ?_
  · intro x hx
    simp only [List.mem_singleton] at hx
    subst hx
    exact ⟨_, _, _, rfl, fun i v hv => by rw [Nat.zero_add]; exact hv⟩
  refine run_end (z := false) fun K' hK' => hK' _ _ _ (hK _ _ _ ?_)
  clear hK' K' hK K
  refine vc_seq ?_
  refine vc_go (by kernel_rfl) fun K hK => hK _ _ _ ?_
  clear hK K
  refine vc_cond (t := true) (bb (decide_eq_true (by omega))) (fun _ => ?_) (fun h => by cases h)
  refine vc_seq ?_
  refine vc_reg (by kernel_rfl) fun K hK => ?_
  refine run_n (z := false) 3 (fun K' hK' => hK' _ _ _ ?_) (by decide)
  clear hK' K'
  refine run_op (vex_ixs (j := i) rfl rfl rfl hi rfl rfl) rfl ?_
  refine run_rd (vex_ldr rc_len (j := 0) (i := i) (d := rc r) rfl (Nat.zero_add _) rfl (rws_win rc l) rfl hr (by decide) rfl) rfl ?_
  refine run_end (z := false) fun K' hK' => hK' _ _ _ (hK _ _ _ ?_)
  clear hK' K' hK K
  exact vc_ret ⟨.inr rfl, rfl⟩
theorem p74 (l : List Rn) (c : Nat) (t : Int) (hl : l.length < 2 ^ 60) : RO 74 [qv 0 l.length c, .int .i64 t] [(0, rws rc l)] (.tuple #[rv ((l.find? fun r => r.id == t).getD z0), .bool (l.find? fun r => r.id == t).isSome]) := by
  rcases fndI_find t l 0 with ⟨h1, h2⟩ | ⟨i, r, h1, h2, h3⟩
  · rw [h1]
    exact p74a c t hl h2
  · rw [h1]
    exact p74b c t hl (by rw [h3, Nat.zero_add]) h2

end Go.Proofs.Ytdfkcijholopoaa.Vm
namespace Go.Proofs.Ytdfkcijholopoaa.Vm
open Go Go.RowKit
set_option maxRecDepth 10000
set_option linter.unusedSimpArgs false
set_option linter.unusedVariables false


theorem okq_nx {l : List Rn} {j : Nat} {r : Rn} {last : Int} (hr : l[j]? = some r) (hk : okR r = true) (h : last < r.id) : okq last (l.drop j) = okq r.id (l.drop (j + 1)) := by
  rw [drop_cons hr, okq, hk, decide_eq_true h]
  rfl
theorem okq_no {l : List Rn} {j : Nat} {r : Rn} {last : Int} (hr : l[j]? = some r) (h : okR r = false ∨ ¬ last < r.id) : okq last (l.drop j) = false := by
  rw [drop_cons hr, okq]
  rcases h with h | h
  · rw [h]; rfl
  · rw [decide_eq_false h]; simp


theorem p71 (l : List Rn) (c : Nat) (hl : l.length < 2 ^ 60) : RO 71 [qv 0 l.length c] [(0, rws rc l)] (.bool (okq 0 l)) := by
  refine ro_of _ 1 Try.func71 rfl Try.ntmps71 (by kernel_rfl) (by simp) rfl rfl (by simp) (by simp [rcs_plain]) ?_
  refine vc_seq ?_
  refine vc_go (by kernel_rfl) fun K hK => hK _ _ _ ?_
  clear hK K
  refine vc_seq ?_
  refine vc_seq ?_
  refine vc_go (by kernel_rfl) fun K hK => hK _ _ _ ?_
  clear hK K
  refine vc_block ?_
  refine vc_loopF (fun n s => ∃ (j : Nat) (last : Int), n = l.length - j ∧ j ≤ l.length ∧ okq 0 l = okq last (l.drop j) ∧ (j = 0 → last = 0) ∧ (∀ (i : Nat) (a : Rn), j = i + 1 → l[i]? = some a → a.id = last) ∧ s = can [(1, .pointer (some ⟨1, 0, none⟩)), (6, .slice (some ⟨0, 0, none⟩) l.length c), (7, .int .i64 (l.length : Int)), (8, .int .i64 ((j : Nat) : Int))] [(0, .cells (rws rc l) 0 false), (1, .cells [.slice (some ⟨0, 0, none⟩) l.length c] 55 true)] 2) l.length ?_ ?_
  · exact ⟨_, fg_focus [(1, .pointer (some ⟨1, 0, none⟩)), (6, .slice (some ⟨0, 0, none⟩) l.length c), (7, .int .i64 (l.length : Int)), (8, .int .i64 ((0 : Nat) : Int))] [(0, .cells (rws rc l) 0 false), (1, .cells [.slice (some ⟨0, 0, none⟩) l.length c] 55 true)] 2 (by decide) ⟨rfl, rfl, rfl, rfl, trivial⟩ ⟨sb rfl, sb rfl, trivial⟩ rfl (bdH_c (by decide) (rcs_plain l) (bdH_b (by decide) rfl rfl)), 0, 0, rfl, Nat.zero_le _, rfl, fun _ => rfl, fun i a h => by omega, rfl⟩
  · rintro n s ⟨j, last, hn, hj, hf, hl0, hla, rfl⟩
    refine vc_seq ?_
    refine vc_go (by kernel_rfl) fun K hK => hK _ _ _ ?_
    clear hK K
    refine vc_seq ?_
    refine vc_cond rfl (fun c0 => ?_) (fun c0 => ?_)
    · -- cond 0 t9 true
      refine vc_skip ?_
      refine vc_seq ?_
      refine vc_block ?_
      refine vc_seq ?_
      have hlt := len_le c0
      obtain ⟨r, hr⟩ : ∃ r, l[j]? = some r := ⟨l[j], List.getElem?_eq_getElem hlt⟩
      refine vc_reg (by kernel_rfl) fun K hK => ?_
      refine run_n (z := false) 1 (fun K' hK' => hK' _ _ _ ?_) (by decide)
      clear hK' K'
      refine run_op (vex_ixs (j := j) rfl rfl rfl hlt rfl rfl) rfl ?_
      refine run_rd (vex_ldr rc_len (j := 0) (i := j) (d := rc r) rfl (Nat.zero_add _) rfl (rws_win rc l) rfl hr (by decide) rfl) rfl ?_
      refine run_end (z := false) fun K' hK' => hK' _ _ _ (hK _ _ _ ?_)
      clear hK' K' hK K
      refine vc_seq ?_
      have h76 := p76 r
      obtain hk | ⟨hk, h0⟩ | ⟨hk, h0, a, ha⟩ : okR r = false ∨ (okR r = true ∧ j = 0) ∨ (okR r = true ∧ 0 < j ∧ ∃ a, l[j - 1]? = some a) := by
        cases hk : okR r
        · exact .inl rfl
        · rcases Nat.eq_zero_or_pos j with h0 | h0
          · exact .inr (.inl ⟨rfl, h0⟩)
          · exact .inr (.inr ⟨rfl, h0, l[j - 1], List.getElem?_eq_getElem (by omega)⟩)
      · rw [hk] at h76
        refine vc_regD [] (by kernel_rfl) (by kernel_rfl) fun K hK => ?_
        refine runD_n (z := false) 1 (fun K' hK' => hK' _ _ _ _ ?_) (by decide)
        clear hK' K'
        refine runD_call (h76) rfl rfl rfl rfl ?_
        refine runD_n (z := false) 2 (fun K' hK' => hK' _ _ _ _ ?_) (by decide)
        clear hK' K'
        refine W_known 16 (b := true) (rfl) ?_
        refine runD_end (z := false) fun K' hK' => hK' _ _ _ _ (hK _ _ _ ?_)
        clear hK' K' hK K
        refine vc_cond (t := true) rfl (fun _ => ?_) (fun h => by cases h)
        refine vc_seq ?_
        refine vc_go (by kernel_rfl) fun K hK => hK _ _ _ ?_
        clear hK K
        refine vc_ret ⟨.inr rfl, ?_⟩
        exact congrArg (fun x => some (Value.bool x)) (hf.trans (okq_no hr (.inl hk))).symm
      · rw [hk] at h76
        refine vc_regD [] (by kernel_rfl) (by kernel_rfl) fun K hK => ?_
        refine runD_n (z := false) 1 (fun K' hK' => hK' _ _ _ _ ?_) (by decide)
        clear hK' K'
        refine runD_call (h76) rfl rfl rfl rfl ?_
        refine runD_n (z := false) 2 (fun K' hK' => hK' _ _ _ _ ?_) (by decide)
        clear hK' K'
        refine W_known 16 (b := false) (rfl) ?_
        refine runD_n (z := false) 3 (fun K' hK' => hK' _ _ _ _ ?_) (by decide)
        clear hK' K'
        refine W_known 19 (b := false) (bb (decide_eq_false (by omega))) ?_
        refine runD_end (z := false) fun K' hK' => hK' _ _ _ _ (hK _ _ _ ?_)
        clear hK' K' hK K
        refine vc_cond (t := false) rfl (fun h => by cases h) (fun _ => ?_)
        refine vc_skip ?_
        refine vc_go (by kernel_rfl) fun K hK => hK _ _ _ ?_
        clear hK K
        exact ⟨_, fg_focus [(1, .pointer (some ⟨1, 0, none⟩)), (6, .slice (some ⟨0, 0, none⟩) l.length c), (7, .int .i64 (l.length : Int)), (8, .int .i64 ((j + 1 : Nat) : Int))] [(0, .cells (rws rc l) 0 false), (1, .cells [.slice (some ⟨0, 0, none⟩) l.length c] 55 true)] 2 (by decide) ⟨rfl, rfl, rfl, ii (wrapI (by omega) (by omega)), trivial⟩ ⟨sb rfl, sb rfl, trivial⟩ rfl (bdH_c (by decide) (rcs_plain l) (bdH_b (by decide) rfl rfl)), l.length - (j + 1), by omega, j + 1, r.id, rfl, hlt, hf.trans (okq_nx hr hk (by rw [hl0 h0]; have := okR_id hk; omega)), fun h => by omega, fun i a h ha => by rw [show i = j by omega, hr] at ha; cases ha; rfl, rfl⟩
      · rw [hk] at h76
        refine vc_regD [] (by kernel_rfl) (by kernel_rfl) fun K hK => ?_
        refine runD_n (z := false) 1 (fun K' hK' => hK' _ _ _ _ ?_) (by decide)
        clear hK' K'
        refine runD_call (h76) rfl rfl rfl rfl ?_
        refine runD_n (z := false) 2 (fun K' hK' => hK' _ _ _ _ ?_) (by decide)
        clear hK' K'
        refine W_known 16 (b := false) (rfl) ?_
        refine runD_n (z := false) 3 (fun K' hK' => hK' _ _ _ _ ?_) (by decide)
        clear hK' K'
        refine W_known 19 (b := true) (bb (decide_eq_true (by omega))) ?_
        refine runD_n (z := false) 4 (fun K' hK' => hK' _ _ _ _ ?_) (by decide)
        clear hK' K'
        refine runD_op (vex_ixs (j := (j - 1)) rfl rfl (by rw [wrapI (by omega) (by omega)]; omega) (by omega) rfl rfl) rfl ?_
        refine runD_n (z := false) 1 (fun K' hK' => hK' _ _ _ _ ?_) (by decide)
        clear hK' K'
        refine runD_rd (vex_ldc rc_len (j := 0) (i := j - 1) rfl (Nat.zero_add _) rfl (rws_win rc l) rfl ha (by decide) rfl) rfl rfl ?_
        refine runD_end (z := false) fun K' hK' => hK' _ _ _ _ (hK _ _ _ ?_)
        clear hK' K' hK K
        refine vc_cond rfl (fun hge => ?_) (fun hge => ?_)
        · -- cond 3 t31 true
          refine vc_seq ?_
          refine vc_go (by kernel_rfl) fun K hK => hK _ _ _ ?_
          clear hK K
          refine vc_ret ⟨.inr rfl, ?_⟩
          exact congrArg (fun x => some (Value.bool x)) (hf.trans (okq_no hr (.inr (by rw [← hla (j - 1) a (by omega) ha]; have := of_decide_eq_true hge; omega)))).symm
        · -- cond 3 t31 false
          refine vc_skip ?_
          refine vc_go (by kernel_rfl) fun K hK => hK _ _ _ ?_
          clear hK K
          exact ⟨_, fg_focus [(1, .pointer (some ⟨1, 0, none⟩)), (6, .slice (some ⟨0, 0, none⟩) l.length c), (7, .int .i64 (l.length : Int)), (8, .int .i64 ((j + 1 : Nat) : Int))] [(0, .cells (rws rc l) 0 false), (1, .cells [.slice (some ⟨0, 0, none⟩) l.length c] 55 true)] 2 (by decide) ⟨rfl, rfl, rfl, ii (wrapI (by omega) (by omega)), trivial⟩ ⟨sb rfl, sb rfl, trivial⟩ rfl (bdH_c (by decide) (rcs_plain l) (bdH_b (by decide) rfl rfl)), l.length - (j + 1), by omega, j + 1, r.id, rfl, hlt, hf.trans (okq_nx hr hk (by rw [← hla (j - 1) a (by omega) ha]; have := of_decide_eq_false hge; omega)), fun h => by omega, fun i a h ha => by rw [show i = j by omega, hr] at ha; cases ha; rfl, rfl⟩
    · -- cond 0 t9 false
      refine vc_exit ?_
      refine vc_seq ?_
      refine vc_go (by kernel_rfl) fun K hK => hK _ _ _ ?_
      clear hK K
      refine vc_ret ⟨.inr rfl, ?_⟩
      have hge := len_ge c0
      obtain rfl : j = l.length := by omega
      rw [List.drop_length] at hf
      exact congrArg (fun x => some (Value.bool x)) hf.symm
end Go.Proofs.Ytdfkcijholopoaa.Vm
namespace Go.Proofs.Ytdfkcijholopoaa.Vm
open Go Go.RowKit
set_option maxRecDepth 10000
set_option linter.unusedSimpArgs false
set_option linter.unusedVariables false


theorem same_nx {l k : List Rn} {j : Nat} {r q : Rn} (hr : l[j]? = some r) (hq : k[j]? = some q) (h : r = q) : decide (l.drop j = k.drop j) = decide (l.drop (j + 1) = k.drop (j + 1)) := by
  rw [drop_cons hr, drop_cons hq, h]
  simp
theorem same_no {l k : List Rn} {j : Nat} {r q : Rn} (hr : l[j]? = some r) (hq : k[j]? = some q) (h : r ≠ q) : decide (l.drop j = k.drop j) = false := by
  rw [drop_cons hr, drop_cons hq]
  simp [h]
theorem rn_ne {r q : Rn} {b : Bool} (h : (!((r.id == q.id) && (r.each == q.each) && ((((r.n / 2 ^ 64 : Nat) : Int) == ((q.n / 2 ^ 64 : Nat) : Int)) && (((r.n % 2 ^ 64 : Nat) : Int) == ((q.n % 2 ^ 64 : Nat) : Int)) && ((r.w : Int) == (q.w : Int))))) = b) : decide (r = q) = !b := by
  rw [rn_beq] at h
  rw [← h, Bool.not_not]


theorem p72n (l k : List Rn) (c d : Nat) (hl : l.length < 2 ^ 60) (hlen : l.length ≠ k.length) : RO 72 [qv 0 l.length c, qv 1 k.length d] [(0, rws rc l), (1, rws rc k)] (.bool false) := by
  refine ro_of _ 2 Try.func72 rfl Try.ntmps72 (by kernel_rfl) (by simp) rfl rfl (by simp) (by simp [rcs_plain]) ?_
  refine vc_seq ?_
  refine vc_go (by kernel_rfl) fun K hK => hK _ _ _ ?_
  clear hK K
  refine vc_seq ?_
  refine vc_seq ?_
  refine vc_go (by kernel_rfl) fun K hK => hK _ _ _ ?_
  clear hK K
  refine vc_cond (t := true) (bb (by simp; omega)) (fun _ => ?_) (fun h => by cases h)
  refine vc_seq ?_
  refine vc_go (by kernel_rfl) fun K hK => hK _ _ _ ?_
  clear hK K
  exact vc_ret ⟨.inr rfl, rfl⟩

theorem p72y (l k : List Rn) (c d : Nat) (hl : l.length < 2 ^ 60) (hlen : l.length = k.length) : RO 72 [qv 0 l.length c, qv 1 k.length d] [(0, rws rc l), (1, rws rc k)] (.bool (decide (l = k))) := by
  refine ro_of _ 2 Try.func72 rfl Try.ntmps72 (by kernel_rfl) (by simp) rfl rfl (by simp) (by simp [rcs_plain]) ?_
  refine vc_seq ?_
  refine vc_go (by kernel_rfl) fun K hK => hK _ _ _ ?_
  clear hK K
  refine vc_seq ?_
  refine vc_seq ?_
  refine vc_go (by kernel_rfl) fun K hK => hK _ _ _ ?_
  clear hK K
  refine vc_cond (t := false) (bb (by simp; omega)) (fun h => by cases h) (fun _ => ?_)
  refine vc_skip ?_
  refine vc_seq ?_
  refine vc_seq ?_
  refine vc_go (by kernel_rfl) fun K hK => hK _ _ _ ?_
  clear hK K
  refine vc_block ?_
  refine vc_loopF (fun n s => ∃ (j : Nat), n = l.length - j ∧ j ≤ l.length ∧ decide (l = k) = decide (l.drop j = k.drop j) ∧ s = can [(2, .pointer (some ⟨2, 0, none⟩)), (3, .pointer (some ⟨3, 0, none⟩)), (15, .int .i64 (l.length : Int)), (16, .int .i64 ((j : Nat) : Int))] [(0, .cells (rws rc l) 0 false), (1, .cells (rws rc k) 0 false), (2, .cells [.slice (some ⟨0, 0, none⟩) l.length c] 55 true), (3, .cells [.slice (some ⟨1, 0, none⟩) k.length d] 55 true)] 4) l.length ?_ ?_
  · exact ⟨_, fg_focus [(2, .pointer (some ⟨2, 0, none⟩)), (3, .pointer (some ⟨3, 0, none⟩)), (15, .int .i64 (l.length : Int)), (16, .int .i64 ((0 : Nat) : Int))] [(0, .cells (rws rc l) 0 false), (1, .cells (rws rc k) 0 false), (2, .cells [.slice (some ⟨0, 0, none⟩) l.length c] 55 true), (3, .cells [.slice (some ⟨1, 0, none⟩) k.length d] 55 true)] 4 (by decide) ⟨rfl, rfl, rfl, rfl, trivial⟩ ⟨sb rfl, sb rfl, sb rfl, sb rfl, trivial⟩ rfl (bdH_c (by decide) (rcs_plain l) (bdH_c (by decide) (rcs_plain k) (bdH_b (by decide) rfl (bdH_b (by decide) rfl rfl)))), 0, rfl, Nat.zero_le _, rfl, rfl⟩
  · rintro n s ⟨j, hn, hj, hf, rfl⟩
    refine vc_seq ?_
    refine vc_go (by kernel_rfl) fun K hK => hK _ _ _ ?_
    clear hK K
    refine vc_seq ?_
    refine vc_cond rfl (fun c0 => ?_) (fun c0 => ?_)
    · -- cond 1 t17 true
      refine vc_skip ?_
      refine vc_seq ?_
      refine vc_block ?_
      refine vc_seq ?_
      refine vc_go (by kernel_rfl) fun K hK => hK _ _ _ ?_
      clear hK K
      refine vc_seq ?_
      have hlt := len_le c0
      obtain ⟨r, hr⟩ : ∃ r, l[j]? = some r := ⟨l[j], List.getElem?_eq_getElem hlt⟩
      obtain ⟨q, hq⟩ : ∃ q, k[j]? = some q := ⟨k[j]'(by omega), List.getElem?_eq_getElem (by omega)⟩
      refine vc_regD [] (by kernel_rfl) (by kernel_rfl) fun K hK => ?_
      refine runD_n (z := false) 3 (fun K' hK' => hK' _ _ _ _ ?_) (by decide)
      clear hK' K'
      refine runD_op (vex_ixs (j := j) rfl rfl rfl hlt rfl rfl) rfl ?_
      refine runD_rd (vex_ldr rc_len (j := 0) (i := j) (d := rc r) rfl (Nat.zero_add _) rfl (rws_win rc l) rfl hr (by decide) rfl) rfl rfl ?_
      refine runD_n (z := false) 3 (fun K' hK' => hK' _ _ _ _ ?_) (by decide)
      clear hK' K'
      refine runD_op (vex_ixs (j := j) rfl rfl rfl (by omega) rfl rfl) rfl ?_
      refine runD_rd (vex_ldr rc_len (j := 0) (i := j) (d := rc q) rfl (Nat.zero_add _) rfl (rws_win rc k) rfl hq (by decide) rfl) rfl rfl ?_
      refine runD_end (z := false) fun K' hK' => hK' _ _ _ _ (hK _ _ _ ?_)
      clear hK' K' hK K
      refine vc_cond rfl (fun hne => ?_) (fun hne => ?_)
      · -- cond 2 t29 true
        refine vc_seq ?_
        refine vc_go (by kernel_rfl) fun K hK => hK _ _ _ ?_
        clear hK K
        refine vc_ret ⟨.inr rfl, ?_⟩
        exact congrArg (fun x => some (Value.bool x)) (hf.trans (same_no hr hq (of_decide_eq_false (rn_ne hne)))).symm
      · -- cond 2 t29 false
        refine vc_skip ?_
        refine vc_go (by kernel_rfl) fun K hK => hK _ _ _ ?_
        clear hK K
        exact ⟨_, fg_focus [(2, .pointer (some ⟨2, 0, none⟩)), (3, .pointer (some ⟨3, 0, none⟩)), (15, .int .i64 (l.length : Int)), (16, .int .i64 ((j + 1 : Nat) : Int))] [(0, .cells (rws rc l) 0 false), (1, .cells (rws rc k) 0 false), (2, .cells [.slice (some ⟨0, 0, none⟩) l.length c] 55 true), (3, .cells [.slice (some ⟨1, 0, none⟩) k.length d] 55 true)] 4 (by decide) ⟨rfl, rfl, rfl, ii (wrapI (by omega) (by omega)), trivial⟩ ⟨sb rfl, sb rfl, sb rfl, sb rfl, trivial⟩ rfl (bdH_c (by decide) (rcs_plain l) (bdH_c (by decide) (rcs_plain k) (bdH_b (by decide) rfl (bdH_b (by decide) rfl rfl)))), l.length - (j + 1), by omega, j + 1, rfl, hlt, hf.trans (same_nx hr hq (of_decide_eq_true (rn_ne hne))), rfl⟩
    · -- cond 1 t17 false
      refine vc_exit ?_
      refine vc_seq ?_
      refine vc_go (by kernel_rfl) fun K hK => hK _ _ _ ?_
      clear hK K
      refine vc_ret ⟨.inr rfl, ?_⟩
      have hge := len_ge c0
      obtain rfl : j = l.length := by omega
      rw [List.drop_length, show k.drop l.length = [] from by rw [hlen, List.drop_length]] at hf
      exact congrArg (fun x => some (Value.bool x)) (hf.trans (decide_eq_true rfl)).symm
theorem p72 (l k : List Rn) (c d : Nat) (hl : l.length < 2 ^ 60) : RO 72 [qv 0 l.length c, qv 1 k.length d] [(0, rws rc l), (1, rws rc k)] (.bool (decide (l = k))) := by
  by_cases h : l.length = k.length
  · exact p72y l k c d hl h
  · rw [decide_eq_false fun e => h (by rw [e])]
    exact p72n l k c d hl h

end Go.Proofs.Ytdfkcijholopoaa.Vm
namespace Go.Proofs.Ytdfkcijholopoaa.Vm
open Go Go.RowKit
set_option maxRecDepth 10000
set_option linter.unusedSimpArgs false
set_option linter.unusedVariables false


theorem p73 (l : List Rn) (c : Nat) (hl : l.length < 2 ^ 60) (hR : ∀ r ∈ l, r.n < 2 ^ 128 ∧ r.w < 2 ^ 64) : RO 73 [qv 0 l.length c] [(0, rws rc l)] (.tuple #[fr (accV (topS none l)).1 (accV (topS none l)).2, .bool (topS none l).isSome]) := by
  refine ro_of _ 1 Try.func73 rfl Try.ntmps73 (by kernel_rfl) (by simp) rfl rfl (by simp) (by simp [rcs_plain]) ?_
  refine vc_seq ?_
  refine vc_go (by kernel_rfl) fun K hK => hK _ _ _ ?_
  clear hK K
  refine vc_seq ?_
  refine vc_go (by kernel_rfl) fun K hK => hK _ _ _ ?_
  clear hK K
  refine vc_seq ?_
  refine vc_seq ?_
  refine vc_go (by kernel_rfl) fun K hK => hK _ _ _ ?_
  clear hK K
  refine vc_block ?_
  refine vc_loopF (fun n s => ∃ (j : Nat) (acc : Option (Nat × Nat)), n = l.length - j ∧ j ≤ l.length ∧ topS none l = topS acc (l.drop j) ∧ (j = 0 ∧ acc = none ∨ 0 < j ∧ ∃ a v, acc = some (a, v) ∧ a < 2 ^ 128 ∧ v < 2 ^ 64) ∧ s = can [(1, .pointer (some ⟨1, 0, none⟩)), (2, .pointer (some ⟨2, 0, none⟩)), (3, .bool false), (4, .pointer (some ⟨3, 0, none⟩)), (8, .slice (some ⟨0, 0, none⟩) l.length c), (9, .int .i64 (l.length : Int)), (10, .int .i64 ((j : Nat) : Int))] [(0, .cells (rws rc l) 0 false), (1, .cells [.slice (some ⟨0, 0, none⟩) l.length c] 55 true), (2, .cells (frc 0 0) 58 true), (3, .cells (frc (accV acc).1 (accV acc).2) 58 true)] 4) l.length ?_ ?_
  · exact ⟨_, fg_focus [(1, .pointer (some ⟨1, 0, none⟩)), (2, .pointer (some ⟨2, 0, none⟩)), (3, .bool false), (4, .pointer (some ⟨3, 0, none⟩)), (8, .slice (some ⟨0, 0, none⟩) l.length c), (9, .int .i64 (l.length : Int)), (10, .int .i64 ((0 : Nat) : Int))] [(0, .cells (rws rc l) 0 false), (1, .cells [.slice (some ⟨0, 0, none⟩) l.length c] 55 true), (2, .cells (frc 0 0) 58 true), (3, .cells (frc (accV none).1 (accV none).2) 58 true)] 4 (by decide) ⟨rfl, rfl, rfl, rfl, rfl, rfl, rfl, trivial⟩ ⟨sb rfl, sb rfl, sb rfl, sb rfl, trivial⟩ rfl (bdH_c (by decide) (rcs_plain l) (bdH_b (by decide) rfl (bdH_c (by decide) (by rfl) (bdH_c (by decide) (by rfl) rfl)))), 0, none, rfl, Nat.zero_le _, rfl, .inl ⟨rfl, rfl⟩, rfl⟩
  · rintro n s ⟨j, acc, hn, hj, hf, hacc, rfl⟩
    refine vc_seq ?_
    refine vc_go (by kernel_rfl) fun K hK => hK _ _ _ ?_
    clear hK K
    refine vc_seq ?_
    refine vc_cond rfl (fun c0 => ?_) (fun c0 => ?_)
    · -- cond 0 t11 true
      refine vc_skip ?_
      refine vc_seq ?_
      refine vc_block ?_
      refine vc_seq ?_
      have hlt := len_le c0
      obtain ⟨r, hr⟩ : ∃ r, l[j]? = some r := ⟨l[j], List.getElem?_eq_getElem hlt⟩
      obtain ⟨hrn, hrw⟩ := hR r (List.mem_of_getElem? hr)
      refine vc_reg (by kernel_rfl) fun K hK => ?_
      refine run_n (z := false) 1 (fun K' hK' => hK' _ _ _ ?_) (by decide)
      clear hK' K'
      refine run_op (vex_ixs (j := j) rfl rfl rfl hlt rfl rfl) rfl ?_
      refine run_rd (vex_ldr rc_len (j := 0) (i := j) (d := rc r) rfl (Nat.zero_add _) rfl (rws_win rc l) rfl hr (by decide) rfl) rfl ?_
      refine run_end (z := false) fun K' hK' => hK' _ _ _ (hK _ _ _ ?_)
      clear hK' K' hK K
      refine vc_seq ?_
      rcases hacc with ⟨h0, rfl⟩ | ⟨h0, a, v, rfl, ha, hv⟩
      · skip
        refine vc_reg (by kernel_rfl) fun K hK => ?_
        refine run_n (z := false) 3 (fun K' hK' => hK' _ _ _ ?_) (by decide)
        clear hK' K'
        refine vgo_known 17 (b := true) (bb (by simp [h0])) ?_
        refine run_end (z := false) fun K' hK' => hK' _ _ _ (hK _ _ _ ?_)
        clear hK' K' hK K
        refine vc_cond (t := true) rfl (fun _ => ?_) (fun h => by cases h)
        refine vc_go (by kernel_rfl) fun K hK => hK _ _ _ ?_
        clear hK K
        refine vc_go (by kernel_rfl) fun K hK => hK _ _ _ ?_
        clear hK K
        exact ⟨_, fg_focus [(1, .pointer (some ⟨1, 0, none⟩)), (2, .pointer (some ⟨2, 0, none⟩)), (3, .bool false), (4, .pointer (some ⟨3, 0, none⟩)), (8, .slice (some ⟨0, 0, none⟩) l.length c), (9, .int .i64 (l.length : Int)), (10, .int .i64 ((j + 1 : Nat) : Int))] [(0, .cells (rws rc l) 0 false), (1, .cells [.slice (some ⟨0, 0, none⟩) l.length c] 55 true), (2, .cells (frc 0 0) 58 true), (3, .cells (frc (accV (some (r.n, r.w))).1 (accV (some (r.n, r.w))).2) 58 true)] 4 (by decide) ⟨rfl, rfl, rfl, rfl, rfl, rfl, ii (wrapI (by omega) (by omega)), trivial⟩ ⟨sb rfl, sb rfl, sb rfl, sb rfl, trivial⟩ rfl (bdH_c (by decide) (rcs_plain l) (bdH_b (by decide) rfl (bdH_c (by decide) (by rfl) (bdH_c (by decide) (by rfl) rfl)))), l.length - (j + 1), by omega, j + 1, (some (r.n, r.w)), rfl, hlt, hf.trans (by rw [drop_cons hr, topS]; rfl), .inr ⟨by omega, _, _, rfl, hrn, hrw⟩, rfl⟩
      · have h56 := p56 hrn hrw ha hv
        refine vc_reg (by kernel_rfl) fun K hK => ?_
        refine run_n (z := false) 3 (fun K' hK' => hK' _ _ _ ?_) (by decide)
        clear hK' K'
        refine vgo_known 17 (b := false) (bb (by simp; omega)) ?_
        refine run_n (z := false) 3 (fun K' hK' => hK' _ _ _ ?_) (by decide)
        clear hK' K'
        refine run_call (h56) rfl rfl rfl rfl ?_
        refine run_end (z := false) fun K' hK' => hK' _ _ _ (hK _ _ _ ?_)
        clear hK' K' hK K
        refine vc_cond rfl (fun hgt => ?_) (fun hgt => ?_)
        · -- cond 2 t23 true
          refine vc_go (by kernel_rfl) fun K hK => hK _ _ _ ?_
          clear hK K
          refine vc_go (by kernel_rfl) fun K hK => hK _ _ _ ?_
          clear hK K
          exact ⟨_, fg_focus [(1, .pointer (some ⟨1, 0, none⟩)), (2, .pointer (some ⟨2, 0, none⟩)), (3, .bool false), (4, .pointer (some ⟨3, 0, none⟩)), (8, .slice (some ⟨0, 0, none⟩) l.length c), (9, .int .i64 (l.length : Int)), (10, .int .i64 ((j + 1 : Nat) : Int))] [(0, .cells (rws rc l) 0 false), (1, .cells [.slice (some ⟨0, 0, none⟩) l.length c] 55 true), (2, .cells (frc 0 0) 58 true), (3, .cells (frc (accV (some (r.n, r.w))).1 (accV (some (r.n, r.w))).2) 58 true)] 4 (by decide) ⟨rfl, rfl, rfl, rfl, rfl, rfl, ii (wrapI (by omega) (by omega)), trivial⟩ ⟨sb rfl, sb rfl, sb rfl, sb rfl, trivial⟩ rfl (bdH_c (by decide) (rcs_plain l) (bdH_b (by decide) rfl (bdH_c (by decide) (by rfl) (bdH_c (by decide) (by rfl) rfl)))), l.length - (j + 1), by omega, j + 1, (some (r.n, r.w)), rfl, hlt, hf.trans (by rw [drop_cons hr, topS, top1, if_pos (of_decide_eq_true hgt)]), .inr ⟨by omega, _, _, rfl, hrn, hrw⟩, rfl⟩
        · -- cond 2 t23 false
          refine vc_skip ?_
          refine vc_go (by kernel_rfl) fun K hK => hK _ _ _ ?_
          clear hK K
          exact ⟨_, fg_focus [(1, .pointer (some ⟨1, 0, none⟩)), (2, .pointer (some ⟨2, 0, none⟩)), (3, .bool false), (4, .pointer (some ⟨3, 0, none⟩)), (8, .slice (some ⟨0, 0, none⟩) l.length c), (9, .int .i64 (l.length : Int)), (10, .int .i64 ((j + 1 : Nat) : Int))] [(0, .cells (rws rc l) 0 false), (1, .cells [.slice (some ⟨0, 0, none⟩) l.length c] 55 true), (2, .cells (frc 0 0) 58 true), (3, .cells (frc (accV (some (a, v))).1 (accV (some (a, v))).2) 58 true)] 4 (by decide) ⟨rfl, rfl, rfl, rfl, rfl, rfl, ii (wrapI (by omega) (by omega)), trivial⟩ ⟨sb rfl, sb rfl, sb rfl, sb rfl, trivial⟩ rfl (bdH_c (by decide) (rcs_plain l) (bdH_b (by decide) rfl (bdH_c (by decide) (by rfl) (bdH_c (by decide) (by rfl) rfl)))), l.length - (j + 1), by omega, j + 1, (some (a, v)), rfl, hlt, hf.trans (by rw [drop_cons hr, topS, top1, if_neg (of_decide_eq_false hgt)]), .inr ⟨by omega, _, _, rfl, ha, hv⟩, rfl⟩
    · -- cond 0 t11 false
      refine vc_exit ?_
      refine vc_seq ?_
      refine vc_goD [(2, 5)] (by kernel_rfl) (by kernel_rfl) fun K hK => hK _ _ _ _ ?_
      clear hK K
      refine vc_ret ⟨.inr rfl, ?_⟩
      have hge := len_ge c0
      obtain rfl : j = l.length := by omega
      rw [List.drop_length] at hf
      have hf2 : topS none l = acc := hf
      rw [hf2]
      refine congrArg (fun b => some (Value.tuple #[fr (accV acc).1 (accV acc).2, .bool b])) ?_
      rcases hacc with ⟨h0, rfl⟩ | ⟨h0, a, v, rfl, ha, hv⟩
      · rw [h0]; rfl
      · exact decide_eq_true (by omega)
end Go.Proofs.Ytdfkcijholopoaa.Vm
namespace Go.Proofs.Ytdfkcijholopoaa.Vm
open Go Go.RowKit
set_option maxRecDepth 10000
set_option linter.unusedSimpArgs false
set_option linter.unusedVariables false


/-- A queue's slice: none; one without room, at an address of which nothing is known; or at block m. -/
def adr (nil : Bool) (m c : Nat) : Option Addr := match nil, c with
  | true, 0 => none
  | true, _ + 1 => some ⟨m, 0, some 0⟩
  | false, _ => some ⟨m, 0, none⟩
def rm (nil : Bool) (c : Nat) : Nat := match nil with
  | true => 0
  | false => c
def idq (nil : Bool) (l : List Rn) (m c : Nat) : Value := .slice (adr nil m c) l.length (rm nil c)
theorem idq_ren (nil : Bool) (l : List Rn) (m c : Nat) : renV (fun _ => (m, 0)) (idq nil l 0 c) = idq nil l m c := by
  cases nil <;> cases c <;> rfl
def Out39 (l : List Rn) : Value → List (Nat × Blk) → Prop := fun v u => ∃ c2, (l.take 17).length ≤ c2 ∧ v = qv 1 (l.take 17).length c2 ∧ u = [(1, .cells (rws rc (l.take 17) ++ zrow (c2 - (l.take 17).length) z5) 67 true)]


theorem p86z : FC 86 [qnil] 1 [(0, .cells (rws rc []) 0 false)] (Out39 []) := by
  refine fc_of [(0, .cells (rws rc []) 0 false)] 1 Try.func86 rfl Try.ntmps86 (by kernel_rfl) (by simp) rfl rfl (hall_of rfl) ?_
  refine vc_seq ?_
  refine vc_go (by kernel_rfl) fun K hK => hK _ _ _ ?_
  clear hK K
  refine vc_seq ?_
  refine vc_reg (by kernel_rfl) fun K hK => ?_
  refine run_n (z := false) 3 (fun K' hK' => hK' _ _ _ ?_) (by decide)
  clear hK' K'
  refine run_sp (sp_append_none (z := z5) rfl rfl rfl el67 rfl (Nat.le_refl 0) .nil) rfl rfl rfl ⟨_, _, rfl, rfl⟩ ?_
  rintro _ _ ⟨rfl, rfl⟩
  refine run_end (z := false) fun K' hK' => hK' _ _ _ (hK _ _ _ ?_)
  clear hK' K' hK K
  refine vc_ret ⟨.inr rfl, ?_⟩
  exact res_of 3 _ _ ⟨0, Nat.le_refl _, rfl, rfl⟩ (Nat.le_of_ble_eq_true rfl) rfl rfl ⟨sbu rfl rfl, trivial⟩ rfl rfl (.inl (by simp))

theorem p39z : FC 39 [qnil] 1 [(0, .cells (rws rc []) 0 false)] (Out39 []) := by
  refine fc_of [(0, .cells (rws rc []) 0 false)] 1 Try.func39 rfl Try.ntmps39 (by kernel_rfl) (by simp) rfl rfl (hall_of rfl) ?_
  refine vc_seq ?_
  refine vc_go (by kernel_rfl) fun K hK => hK _ _ _ ?_
  clear hK K
  refine vc_seq ?_
  refine vc_reg (by kernel_rfl) fun K hK => ?_
  refine run_n (z := false) 8 (fun K' hK' => hK' _ _ _ ?_) (by decide)
  clear hK' K'
  refine run_fc (fun k => (k, 0)) p86nil (hasF trivial rfl) rfl rfl rfl rfl ⟨_, _, rfl, rfl⟩ ?_
  rintro _ _ ⟨rfl, rfl⟩
  refine run_end (z := false) fun K' hK' => hK' _ _ _ (hK _ _ _ ?_)
  clear hK' K' hK K
  refine vc_ret ⟨.inr rfl, ?_⟩
  exact res_of 11 _ _ ⟨0, Nat.le_refl _, rfl, rfl⟩ (Nat.le_of_ble_eq_true rfl) rfl rfl ⟨sbu rfl rfl, trivial⟩ rfl rfl (.inl (by simp))
theorem p86w : FC 86 [.agg #[.slice (some ⟨0, 0, some 0⟩) 0 0]] 1 [(0, .cells (rws rc []) 0 false)] (Out39 []) := by
  refine fc_of [(0, .cells (rws rc []) 0 false)] 1 Try.func86 rfl Try.ntmps86 (by kernel_rfl) (by simp) rfl rfl (hall_of rfl) ?_
  refine vc_seq ?_
  refine vc_go (by kernel_rfl) fun K hK => hK _ _ _ ?_
  clear hK K
  refine vc_seq ?_
  refine vc_reg (by kernel_rfl) fun K hK => ?_
  refine run_n (z := false) 3 (fun K' hK' => hK' _ _ _ ?_) (by decide)
  clear hK' K'
  refine run_sp (sp_append_none (z := z5) rfl rfl rfl el67 rfl (Nat.le_refl 0) .wild) rfl rfl rfl ⟨_, _, rfl, rfl⟩ ?_
  rintro _ _ ⟨rfl, rfl⟩
  refine run_end (z := false) fun K' hK' => hK' _ _ _ (hK _ _ _ ?_)
  clear hK' K' hK K
  refine vc_ret ⟨.inr rfl, ?_⟩
  exact res_of 3 _ _ ⟨0, Nat.le_refl _, rfl, rfl⟩ (Nat.le_of_ble_eq_true rfl) rfl rfl ⟨sbu rfl rfl, trivial⟩ rfl rfl (.inl (by simp))

theorem p39w : FC 39 [.agg #[.slice (some ⟨0, 0, some 0⟩) 0 0]] 1 [(0, .cells (rws rc []) 0 false)] (Out39 []) := by
  refine fc_of [(0, .cells (rws rc []) 0 false)] 1 Try.func39 rfl Try.ntmps39 (by kernel_rfl) (by simp) rfl rfl (hall_of rfl) ?_
  refine vc_seq ?_
  refine vc_go (by kernel_rfl) fun K hK => hK _ _ _ ?_
  clear hK K
  refine vc_seq ?_
  refine vc_reg (by kernel_rfl) fun K hK => ?_
  refine run_n (z := false) 8 (fun K' hK' => hK' _ _ _ ?_) (by decide)
  clear hK' K'
  refine run_fc (fun k => (k, 0)) p86w (hasF ⟨sf_winp (rcs_plain []) rfl (get_take0 (l := []) (i := 17)), trivial⟩ rfl) rfl rfl rfl rfl ⟨_, _, _, Nat.le_refl _, rfl, rfl⟩ ?_
  rintro _ _ ⟨c2, hc2, rfl, rfl⟩
  rw [renU_c (renB_p (spare_plain _ _)) renU_nil]
  refine run_end (z := false) fun K' hK' => hK' _ _ _ (hK _ _ _ ?_)
  clear hK' K' hK K
  refine vc_ret ⟨.inr rfl, ?_⟩
  exact res_of 11 _ _ ⟨c2, hc2, rfl, rfl⟩ (Nat.le_of_ble_eq_true rfl) rfl rfl ⟨sbu (spare_plain _ _) rfl, trivial⟩ (bdH_c (by decide) (spare_plain _ _) rfl) rfl (.inl (by simp))
theorem p39u (nil : Bool) (l : List Rn) (c : Nat) (hn : nil = true → l = [] ∧ c ≤ 1) (hc : nil = false → l.length ≤ c) : FC 39 [.agg #[idq nil l 0 c]] 1 [(0, .cells (rws rc l) 0 false)] (Out39 l) := by
  cases nil with
  | true =>
    obtain ⟨rfl, hc1⟩ := hn rfl
    cases c with
    | zero => exact p39z
    | succ c => exact p39w
  | false =>
    exact p39 (hc rfl)

end Go.Proofs.Ytdfkcijholopoaa.Vm
namespace Go.Proofs.Ytdfkcijholopoaa.Vm
open Go Go.RowKit
set_option maxRecDepth 10000
set_option linter.unusedSimpArgs false
set_option linter.unusedVariables false

theorem get_find {l : List Rn} {t : Int} (hq : okq 0 l = true) (ht : i64r t) : getQ l t = l.find? (fun r => r.id == t) := by
  cases hf : l.find? (fun r => r.id == t) with
  | none =>
    have hno : ∀ r ∈ l, r.id ≠ t := fun r hr e => by
      have := List.find?_eq_none.1 hf r hr
      simp [e] at this
    exact getQ_none hq (atB_none_of hq ht hno)
  | some r =>
    have h1 := List.find?_some hf
    have h2 := List.mem_of_find?_eq_some hf
    obtain ⟨k, hk⟩ := List.getElem?_of_mem h2
    have h3 := (at_of hq hk).2.2
    have h4 : r.id = t := by simpa using h1
    rw [h4] at h3
    exact h3
theorem get_right {l : List Rn} {t : Int} (ht : i64r t) : getQ l t = if okq 0 l = true then l.find? (fun r => r.id == t) else none := by
  cases hq : okq 0 l
  · rw [if_neg (by simp), getQ_no hq]
  · rw [if_pos rfl, get_find hq ht]
end Go.Proofs.Ytdfkcijholopoaa.Vm
