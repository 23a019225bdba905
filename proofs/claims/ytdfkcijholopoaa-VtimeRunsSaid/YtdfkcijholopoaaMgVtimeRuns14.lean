/- What the proofs stand on, in one text: Nb, Nf, Ng. -/
import Derived.Test.YtdfkcijholopoaaMg12
namespace Go.Proofs.Ytdfkcijholopoaa.Vm
open Go Go.RowKit
set_option maxRecDepth 10000
set_option linter.unusedSimpArgs false
set_option linter.unusedVariables false


/-- Behind a region: the state laid anew, under new names. -/
theorem renF {B N : Nat} {y : Code} {Q : Exit → St → Prop} {t : Nat → Value} {h : Nat → Option Blk} {n : Nat} (g : Nat → Nat) (lt : List (Nat × Value)) (lh : List (Nat × Blk)) (K : Nat) (hB : B ≤ K) (hg : ∀ m, m < B → g m = m) (ht : HasTR t (fun k => (g k, 0)) lt) (hh : HasFl h (fun k => (g k, 0)) lh) (hb : bdT K lt = true) (hb' : bdH K lh = true)
    (hi : injF (fun k => (g k, 0)) (lh.map fun x => (x.1, x.2.own)) = true) (k : thenV (B := B) N y Q .normal ⟨updT (fun _ => junk) lt, updH (fun _ => none) lh, K⟩) : thenV (B := B) N y Q .normal ⟨t, h, n⟩ :=
  vc_fg (s := ⟨t, h, n⟩) (fg_ren g lt lh K hB hg ht hh hb hb' hi) k
abbrev AR46 (l : List Rn) (r : Rn) (b c : Nat) : List Value := [qv 0 l.length c, rv r, u64 b]
def Out46e (e : Int) : Value → List (Nat × Blk) → Prop := fun v u => v = .tuple #[qnil, .int .i64 e] ∧ u = []
def Out46k (l1 : List Rn) (n : Nat) : Value → List (Nat × Blk) → Prop := fun v u => ∃ c2 sp2, plainL sp2 = true ∧ v = .tuple #[qv 1 n c2, .int .i64 0] ∧ u = [(1, .cells (rws rc l1 ++ sp2) 67 true)]
def Out49k (l1 : List Rn) (n : Nat) (a : Rn) : Value → List (Nat × Blk) → Prop := fun v u => ∃ c2 sp2, n ≤ c2 ∧ plainL sp2 = true ∧ v = .tuple #[qv 1 n c2, rv a, .int .i64 0] ∧ u = [(1, .cells (rws rc l1 ++ sp2) 67 true)]
theorem fr_neq (n w : Nat) : (!((((n/2^64:Nat):Int) == ((n/2^64:Nat):Int)) && (((n%2^64:Nat):Int) == ((n%2^64:Nat):Int)) && ((w:Int) == (w:Int)))) = false := by simp
/-- Join, in three ways. -/
theorem near_cases (l : List Rn) (r : Rn) (b c : Nat) (hl : l.length ≤ 17) (hc : l.length ≤ c) :
    (∃ e, e ≠ 0 ∧ e = joinE l r b ∧ FC 46 [qv 0 l.length c, rv r, u64 b] 1 [(0, .cells (rws rc l) 0 false)] (Out46e e)) ∨
    (joinE l r b = 0 ∧ okq 0 l = true ∧ topS none l = none ∧ FC 46 [qv 0 l.length c, rv r, u64 b] 1 [(0, .cells (rws rc l) 0 false)] (Out46k (joinQ l r b) (l.length + 1))) ∨
    (∃ a v, joinE l r b = 0 ∧ okq 0 l = true ∧ topS none l = some (a, v) ∧ FC 46 [qv 0 l.length c, rv r, u64 b] 1 [(0, .cells (rws rc l) 0 false)] (Out46k (joinQ l r b) (l.length + 1))) := by
  rcases p46 l r b c (by omega) hc with ⟨h1, h2⟩ | ⟨h1, h2, _, _, _, h6⟩
  · exact .inl ⟨_, h1, rfl, h2⟩
  · cases ht : topS none l with
    | none => exact .inr (.inl ⟨h1, h2, rfl, h6⟩)
    | some x => exact .inr (.inr ⟨x.1, x.2, h1, h2, rfl, h6⟩)
theorem leave_ok {l : List Rn} {a : Rn} {k : Nat} (c : Nat) (hl : l.length ≤ 900) (hq : okq 0 l = true) (ha : l[k]? = some a) : FC 49 [qv 0 l.length c, .int .i64 a.id] 1 [(0, .cells (rws rc l) 0 false)] (Out49k (delQ l k) (l.length - 1) a) := by
  obtain ⟨e1, e2, _⟩ := at_of hq ha
  have hid := okR_id ((okq0.1 hq).1 a (List.mem_of_getElem? ha))
  have hE : leaveE l a.id = 0 := by simp [leaveE, hq, e2, inI, hid]
  rcases p49 l a.id c hl with ⟨h, _⟩ | ⟨_, _, _, _, a', ha', h⟩
  · exact absurd hE h
  · rw [e1] at ha' h
    rw [ha] at ha'
    cases ha'
    exact h
theorem same_ro (l : List Rn) (ca cb : Nat) (hl : l.length ≤ 900) : RO 45 [qv 0 l.length ca, qv 1 l.length cb] [(0, rws rc l), (1, rws rc l)] (.bool true) := by
  have h := p45 l l ca cb (by omega)
  rw [decide_eq_true rfl] at h
  exact h

theorem p9 (x : List Rn) (r : Rn) (b c : Nat) (hb64 : b < 2 ^ 64) (hc : x.length ≤ c) : RO 9 [qv 0 x.length c, rv r, u64 b] [(0, rws rc x)] (.bool true) := by
  refine ro_of _ 1 Try.func9 rfl Try.ntmps9 (by kernel_rfl) (by simp) rfl rfl (by simp) (by simp [rcs_plain]) ?_
  refine vc_seq ?_
  refine vc_go (by kernel_rfl) fun K hK => hK _ _ _ ?_
  clear hK K
  refine vc_seq ?_
  refine vc_seq ?_
  refine vc_reg (by kernel_rfl) fun K hK => ?_
  refine run_call (p38) rfl rfl rfl rfl ?_
  refine run_end (z := false) fun K' hK' => hK' _ _ _ (hK _ _ _ ?_)
  clear hK' K' hK K
  refine vc_cond (t := false) rfl (fun h => by cases h) (fun _ => ?_)
  refine vc_skip ?_
  refine vc_seq ?_
  refine vc_reg (by kernel_rfl) fun K hK => ?_
  refine run_n (z := false) 1 (fun K' hK' => hK' _ _ _ ?_) (by decide)
  clear hK' K'
  refine run_fc (fun k => (k, 0)) (p39 hc) (hasF ⟨sf_winp (rcs_plain x) rfl get_zero, trivial⟩ rfl) rfl rfl rfl rfl ⟨_, _, _, Nat.le_refl _, rfl, rfl⟩ ?_
  rintro _ _ ⟨c2, hlc, rfl, rfl⟩
  rw [renU_c (renB_p (spare_plain _ _)) renU_nil]
  have hl : (x.take 17).length ≤ 17 := take17 x
  generalize x.take 17 = l at *
  refine run_end (z := false) fun K' hK' => hK' _ _ _ (hK _ _ _ ?_)
  clear hK' K' hK K
  refine renF (fun k => if k = 0 then 2 else if k = 1 then 5 else 4) [(2, u64 b), (4, .pointer (some ⟨0, 0, none⟩)), (6, .bool false), (7, .pointer (some ⟨1, 0, none⟩))] [(0, .cells (rc r) 67 true), (1, .cells [.slice (some ⟨2, 0, none⟩) l.length c2] 55 true), (2, .cells (rws rc l) 67 false)] 3 (by decide) (fun m hm => absurd hm (Nat.not_lt_zero m)) ⟨rfl, rfl, rfl, rfl, trivial⟩ ⟨sf_ownp (rc_plain r) rfl rfl, sf_own rfl rfl, sf_winp (rcs_plain l) rfl get_zero_app, trivial⟩ rfl (bdH_c (by decide) (rc_plain r) (bdH_b (by decide) rfl (bdH_c (by decide) (rcs_plain l) rfl))) rfl ?_
  refine vc_seq ?_
  rcases near_cases l r b c2 hl hlc with ⟨e, he, hee, h46⟩ | ⟨he, hq, ht, h46⟩ | ⟨a, v, he, hq, ht, h46⟩
  · have h40 := p40 l c2 (by omega)
    refine vc_reg (by kernel_rfl) fun K hK => ?_
    refine run_n (z := false) 1 (fun K' hK' => hK' _ _ _ ?_) (by decide)
    clear hK' K'
    refine run_ro (fun _ => (2, 0)) (h40) ?_ rfl rfl rfl rfl ?_
    · intro x hx
      simp only [List.mem_singleton] at hx
      subst hx
      exact ⟨_, _, _, rfl, fun i v hv => by rw [Nat.zero_add]; exact hv⟩
    refine run_end (z := false) fun K' hK' => hK' _ _ _ (hK _ _ _ ?_)
    clear hK' K' hK K
    refine vc_seq ?_
    refine vc_reg (by kernel_rfl) fun K hK => ?_
    refine run_n (z := false) 3 (fun K' hK' => hK' _ _ _ ?_) (by decide)
    clear hK' K'
    refine run_fc (fun _ => (2, 0)) h46 (hasF ⟨sf_winp (rcs_plain l) rfl get_zero, trivial⟩ rfl) rfl rfl rfl rfl ⟨_, _, rfl, rfl⟩ ?_
    rintro _ _ ⟨rfl, rfl⟩
    refine run_end (z := false) fun K' hK' => hK' _ _ _ (hK _ _ _ ?_)
    clear hK' K' hK K
    refine vc_seq ?_
    refine vc_seq ?_
    refine vc_go (by kernel_rfl) fun K hK => hK _ _ _ ?_
    clear hK K
    refine vc_cond (t := true) (bb (bne_iff_ne.2 he)) (fun _ => ?_) (fun h => by cases h)
    refine vc_seq ?_
    refine vc_go (by kernel_rfl) fun K hK => hK _ _ _ ?_
    clear hK K
    exact vc_ret ⟨.inr rfl, rfl⟩
  · have h40 := p40 l c2 (by omega)
    rw [topQ_yes hq, ht] at h40
    obtain ⟨jok, jlen, jget, jdel, jat, jq, jb⟩ := joinQ_ok he
    obtain ⟨_, hr, _, hb, hfit⟩ := join_fits he
    have h43 := fun c => p43 (joinQ l r b) c r.id (by omega)
    have h47 := fun c => p47 (joinQ l r b) c (by omega)
    simp only [jq, chk1_yes jok, jlen] at h43 h47
    have hw1 : IntKind.i64.wrap ((l.length : Int) + 1) = ((l.length + 1 : Nat) : Int) := by rw [wrapI (by omega) (by omega)]; omega
    have hT : joinT l r b = r.n := by unfold joinT; rw [ht]
    refine vc_reg (by kernel_rfl) fun K hK => ?_
    refine run_n (z := false) 1 (fun K' hK' => hK' _ _ _ ?_) (by decide)
    clear hK' K'
    refine run_ro (fun _ => (2, 0)) (h40) ?_ rfl rfl rfl rfl ?_
    · intro x hx
      simp only [List.mem_singleton] at hx
      subst hx
      exact ⟨_, _, _, rfl, fun i v hv => by rw [Nat.zero_add]; exact hv⟩
    refine run_end (z := false) fun K' hK' => hK' _ _ _ (hK _ _ _ ?_)
    clear hK' K' hK K
    refine vc_seq ?_
    refine vc_reg (by kernel_rfl) fun K hK => ?_
    refine run_n (z := false) 3 (fun K' hK' => hK' _ _ _ ?_) (by decide)
    clear hK' K'
    refine run_fc (fun _ => (2, 0)) h46 (hasF ⟨sf_winp (rcs_plain l) rfl get_zero, trivial⟩ rfl) rfl rfl rfl rfl ⟨_, _, 0, [], rfl, rfl, rfl⟩ ?_
    rintro _ _ ⟨c3, sp3, hp3, rfl, rfl⟩
    rw [renU_c (renB_p (plainL_append (rcs_plain _) hp3)) renU_nil]
    refine run_end (z := false) fun K' hK' => hK' _ _ _ (hK _ _ _ ?_)
    clear hK' K' hK K
    refine refocusF [(2, u64 b), (4, .pointer (some ⟨0, 0, none⟩)), (6, .bool false), (7, .pointer (some ⟨1, 0, none⟩)), (8, .pointer (some ⟨8, 0, none⟩)), (9, .bool false), (10, .pointer (some ⟨16, 0, none⟩)), (11, .int .i64 0)] [(0, .cells (rc r) 67 true), (1, .cells [.slice (some ⟨2, 0, none⟩) l.length c2] 55 true), (2, .cells (rws rc l) 67 false), (8, .cells (frc 0 0) 58 true), (12, .cells (rws rc (joinQ l r b) ++ sp3) 67 true), (16, .cells [.slice (some ⟨12, 0, none⟩) (l.length + 1) c3] 55 true)] 17 (by decide) ⟨rfl, rfl, rfl, rfl, rfl, rfl, rfl, rfl, trivial⟩ ⟨sb rfl, sb rfl, sb rfl, sb rfl, sb rfl, sb rfl, trivial⟩ rfl (bdH_c (by decide) (rc_plain r) (bdH_b (by decide) rfl (bdH_c (by decide) (rcs_plain l) (bdH_c (by decide) (by rfl) (bdH_c (by decide) (plainL_append (rcs_plain _) hp3) (bdH_b (by decide) rfl rfl)))))) ?_
    refine vc_seq ?_
    refine vc_seq ?_
    refine vc_go (by kernel_rfl) fun K hK => hK _ _ _ ?_
    clear hK K
    refine vc_cond (t := false) rfl (fun h => by cases h) (fun _ => ?_)
    refine vc_skip ?_
    refine vc_seq ?_
    refine vc_reg (by kernel_rfl) fun K hK => ?_
    refine run_n (z := false) 3 (fun K' hK' => hK' _ _ _ ?_) (by decide)
    clear hK' K'
    refine run_ro (fun _ => (12, 0)) ((h43 c3)) ?_ rfl rfl rfl rfl ?_
    · intro x hx
      simp only [List.mem_singleton] at hx
      subst hx
      exact ⟨_, _, _, rfl, get_zero_app⟩
    refine run_end (z := false) fun K' hK' => hK' _ _ _ (hK _ _ _ ?_)
    clear hK' K' hK K
    refine vc_seq ?_
    refine vc_seq ?_
    refine vc_reg (by kernel_rfl) fun K hK => ?_
    refine run_n (z := false) 3 (fun K' hK' => hK' _ _ _ ?_) (by decide)
    clear hK' K'
    refine vgo_known 47 (b := false) (rfl) ?_
    refine run_n (z := false) 1 (fun K' hK' => hK' _ _ _ ?_) (by decide)
    clear hK' K'
    refine run_ro (fun _ => (12, 0)) ((h47 c3)) ?_ rfl rfl rfl rfl ?_
    · intro x hx
      simp only [List.mem_singleton] at hx
      subst hx
      exact ⟨_, _, _, rfl, get_zero_app⟩
    refine run_n (z := false) 3 (fun K' hK' => hK' _ _ _ ?_) (by decide)
    clear hK' K'
    refine vgo_known 52 (b := false) (rfl) ?_
    refine run_n (z := false) 10 (fun K' hK' => hK' _ _ _ ?_) (by decide)
    clear hK' K'
    refine vgo_known 62 (b := false) (bb (by rw [hw1]; simp)) ?_
    refine run_n (z := false) 7 (fun K' hK' => hK' _ _ _ ?_) (by decide)
    clear hK' K'
    refine vgo_known 69 (b := false) (bb (by simp)) ?_
    refine run_end (z := false) fun K' hK' => hK' _ _ _ (hK _ _ _ ?_)
    clear hK' K' hK K
    refine vc_cond (t := false) (bb (by simp)) (fun h => by cases h) (fun _ => ?_)
    refine vc_skip ?_
    refine vc_seq ?_
    refine vc_seq ?_
    refine vc_go (by kernel_rfl) fun K hK => hK _ _ _ ?_
    clear hK K
    refine vc_cond (t := true) rfl (fun _ => ?_) (fun h => by cases h)
    refine vc_seq ?_
    refine vc_go (by kernel_rfl) fun K hK => hK _ _ _ ?_
    clear hK K
    refine vc_ret ⟨.inr rfl, ?_⟩
    exact fin_bb ((rn_beq _ _).trans (decide_eq_true (by rw [hT]; rfl)))
  · have h40 := p40 l c2 (by omega)
    rw [topQ_yes hq, ht] at h40
    obtain ⟨jok, jlen, jget, jdel, jat, jq, jb⟩ := joinQ_ok he
    obtain ⟨_, hr, _, hb, hfit⟩ := join_fits he
    have h43 := fun c => p43 (joinQ l r b) c r.id (by omega)
    have h47 := fun c => p47 (joinQ l r b) c (by omega)
    simp only [jq, chk1_yes jok, jlen] at h43 h47
    have hw1 : IntKind.i64.wrap ((l.length : Int) + 1) = ((l.length + 1 : Nat) : Int) := by rw [wrapI (by omega) (by omega)]; omega
    have hra : rt a v = true := topS_rt (okq_mem hq) (fun x h => by cases h) _ ht
    have hv : 0 < v := (rt_w hra).1
    have hrr : rt r.n r.w = true := okR_rt hr
    have hA := hfit a v ht
    have hT : joinT l r b = joinN a v r.w (b * r.each.toNat) r.n := by unfold joinT; rw [ht]
    have hrT : rt (joinT l r b) r.w = true := rt_mk (rt_wt hrr) (joinT_lt he)
    obtain ⟨n1, n2⟩ := join_near (a := a) (v := v) (w := r.w) (k := b * r.each.toNat) (n := r.n) hv
    rw [← hT] at n1 n2
    have h48 : Pure 48 [fr (joinT l r b) r.w, fr a v] (.bool true) := by
      rcases Nat.eq_zero_or_pos (joinT l r b) with h | h
      · exact p48a hrT hra n1 h
      · refine p48b hrT hra n1 (by omega) ?_
        rcases n2 with n2 | n2
        · omega
        · unfold cmpW
          rw [if_pos n2]
          decide
    have h42 := p42y hrT hra
    have k42 := p42y hrr hra
    have h49 := fun c => leave_ok c (by omega) jok jget
    simp only [jdel, jlen, Nat.add_sub_cancel] at h49
    refine vc_reg (by kernel_rfl) fun K hK => ?_
    refine run_n (z := false) 1 (fun K' hK' => hK' _ _ _ ?_) (by decide)
    clear hK' K'
    refine run_ro (fun _ => (2, 0)) (h40) ?_ rfl rfl rfl rfl ?_
    · intro x hx
      simp only [List.mem_singleton] at hx
      subst hx
      exact ⟨_, _, _, rfl, fun i v hv => by rw [Nat.zero_add]; exact hv⟩
    refine run_end (z := false) fun K' hK' => hK' _ _ _ (hK _ _ _ ?_)
    clear hK' K' hK K
    refine vc_seq ?_
    refine vc_reg (by kernel_rfl) fun K hK => ?_
    refine run_n (z := false) 3 (fun K' hK' => hK' _ _ _ ?_) (by decide)
    clear hK' K'
    refine run_fc (fun _ => (2, 0)) h46 (hasF ⟨sf_winp (rcs_plain l) rfl get_zero, trivial⟩ rfl) rfl rfl rfl rfl ⟨_, _, 0, [], rfl, rfl, rfl⟩ ?_
    rintro _ _ ⟨c3, sp3, hp3, rfl, rfl⟩
    rw [renU_c (renB_p (plainL_append (rcs_plain _) hp3)) renU_nil]
    refine run_end (z := false) fun K' hK' => hK' _ _ _ (hK _ _ _ ?_)
    clear hK' K' hK K
    refine refocusF [(2, u64 b), (4, .pointer (some ⟨0, 0, none⟩)), (6, .bool false), (7, .pointer (some ⟨1, 0, none⟩)), (8, .pointer (some ⟨8, 0, none⟩)), (9, .bool true), (10, .pointer (some ⟨16, 0, none⟩)), (11, .int .i64 0)] [(0, .cells (rc r) 67 true), (1, .cells [.slice (some ⟨2, 0, none⟩) l.length c2] 55 true), (2, .cells (rws rc l) 67 false), (8, .cells (frc a v) 58 true), (12, .cells (rws rc (joinQ l r b) ++ sp3) 67 true), (16, .cells [.slice (some ⟨12, 0, none⟩) (l.length + 1) c3] 55 true)] 17 (by decide) ⟨rfl, rfl, rfl, rfl, rfl, rfl, rfl, rfl, trivial⟩ ⟨sb rfl, sb rfl, sb rfl, sb rfl, sb rfl, sb rfl, trivial⟩ rfl (bdH_c (by decide) (rc_plain r) (bdH_b (by decide) rfl (bdH_c (by decide) (rcs_plain l) (bdH_c (by decide) (by rfl) (bdH_c (by decide) (plainL_append (rcs_plain _) hp3) (bdH_b (by decide) rfl rfl)))))) ?_
    refine vc_seq ?_
    refine vc_seq ?_
    refine vc_go (by kernel_rfl) fun K hK => hK _ _ _ ?_
    clear hK K
    refine vc_cond (t := false) rfl (fun h => by cases h) (fun _ => ?_)
    refine vc_skip ?_
    refine vc_seq ?_
    refine vc_reg (by kernel_rfl) fun K hK => ?_
    refine run_n (z := false) 3 (fun K' hK' => hK' _ _ _ ?_) (by decide)
    clear hK' K'
    refine run_ro (fun _ => (12, 0)) ((h43 c3)) ?_ rfl rfl rfl rfl ?_
    · intro x hx
      simp only [List.mem_singleton] at hx
      subst hx
      exact ⟨_, _, _, rfl, get_zero_app⟩
    refine run_end (z := false) fun K' hK' => hK' _ _ _ (hK _ _ _ ?_)
    clear hK' K' hK K
    refine vc_seq ?_
    refine vc_seq ?_
    refine vc_reg (by kernel_rfl) fun K hK => ?_
    refine run_n (z := false) 3 (fun K' hK' => hK' _ _ _ ?_) (by decide)
    clear hK' K'
    refine vgo_known 47 (b := false) (rfl) ?_
    refine run_n (z := false) 1 (fun K' hK' => hK' _ _ _ ?_) (by decide)
    clear hK' K'
    refine run_ro (fun _ => (12, 0)) ((h47 c3)) ?_ rfl rfl rfl rfl ?_
    · intro x hx
      simp only [List.mem_singleton] at hx
      subst hx
      exact ⟨_, _, _, rfl, get_zero_app⟩
    refine run_n (z := false) 3 (fun K' hK' => hK' _ _ _ ?_) (by decide)
    clear hK' K'
    refine vgo_known 52 (b := false) (rfl) ?_
    refine run_n (z := false) 10 (fun K' hK' => hK' _ _ _ ?_) (by decide)
    clear hK' K'
    refine vgo_known 62 (b := false) (bb (by rw [hw1]; simp)) ?_
    refine run_n (z := false) 7 (fun K' hK' => hK' _ _ _ ?_) (by decide)
    clear hK' K'
    refine vgo_known 69 (b := false) (bb (by simp)) ?_
    refine run_end (z := false) fun K' hK' => hK' _ _ _ (hK _ _ _ ?_)
    clear hK' K' hK K
    refine vc_cond (t := false) (bb (by simp)) (fun h => by cases h) (fun _ => ?_)
    refine vc_skip ?_
    refine vc_seq ?_
    refine vc_seq ?_
    refine vc_go (by kernel_rfl) fun K hK => hK _ _ _ ?_
    clear hK K
    refine vc_cond (t := false) rfl (fun h => by cases h) (fun _ => ?_)
    refine vc_skip ?_
    refine vc_seq ?_
    refine vc_seq ?_
    by_cases hb0 : b = 0
    · have hz : cmpW (joinT l r b * v) (a * r.w) < 0 → False := by
        intro h
        rw [hT, hb0, Nat.zero_mul, join_zero] at h
        have := sc_ge' (a := a) (m := r.w) (d := v) hv
        unfold cmpW at h
        split at h
        · omega
        · split at h <;> simp at h
      refine vc_reg (by kernel_rfl) fun K hK => ?_
      refine run_n (z := false) 3 (fun K' hK' => hK' _ _ _ ?_) (by decide)
      clear hK' K'
      refine run_call (h48) rfl rfl rfl rfl ?_
      refine run_n (z := false) 2 (fun K' hK' => hK' _ _ _ ?_) (by decide)
      clear hK' K'
      refine vgo_known 88 (b := false) (rfl) ?_
      refine run_n (z := false) 3 (fun K' hK' => hK' _ _ _ ?_) (by decide)
      clear hK' K'
      refine vgo_known 91 (b := true) (bb (by simp [hb0])) ?_
      refine run_n (z := false) 3 (fun K' hK' => hK' _ _ _ ?_) (by decide)
      clear hK' K'
      refine run_call (h42) rfl rfl rfl rfl ?_
      refine run_end (z := false) fun K' hK' => hK' _ _ _ (hK _ _ _ ?_)
      clear hK' K' hK K
      refine vc_cond (t := false) (bb (decide_eq_false hz)) (fun h => by cases h) (fun _ => ?_)
      refine vc_skip ?_
      refine vc_seq ?_
      refine vc_seq ?_
      by_cases heq : cmpW (r.n * v) (a * r.w) = 0
      · have hTn : joinT l r b = r.n := by
          rw [hT]
          refine join_top hv ?_
          rw [cmpW_eq] at heq
          exact heq
        refine vc_reg (by kernel_rfl) fun K hK => ?_
        refine run_n (z := false) 3 (fun K' hK' => hK' _ _ _ ?_) (by decide)
        clear hK' K'
        refine run_call (k42) rfl rfl rfl rfl ?_
        refine run_n (z := false) 2 (fun K' hK' => hK' _ _ _ ?_) (by decide)
        clear hK' K'
        refine vgo_known 104 (b := true) (bb (by rw [heq]; rfl)) ?_
        refine run_end (z := false) fun K' hK' => hK' _ _ _ (hK _ _ _ ?_)
        clear hK' K' hK K
        refine vc_cond (t := false) (bb (by rw [hTn]; exact fr_neq r.n r.w)) (fun h => by cases h) (fun _ => ?_)
        refine vc_skip ?_
        refine vc_seq ?_
        refine vc_reg (by kernel_rfl) fun K hK => ?_
        refine run_n (z := false) 3 (fun K' hK' => hK' _ _ _ ?_) (by decide)
        clear hK' K'
        refine run_fc (fun _ => (12, 0)) (h49 c3) (hasF ⟨sf_winp (rcs_plain _) rfl get_zero_app, trivial⟩ rfl) rfl rfl rfl rfl ⟨_, _, _, [], Nat.le_refl _, rfl, rfl, rfl⟩ ?_
        rintro _ _ ⟨c4, sp4, _, hp4, rfl, rfl⟩
        rw [renU_c (renB_p (plainL_append (rcs_plain _) hp4)) renU_nil]
        refine run_end (z := false) fun K' hK' => hK' _ _ _ (hK _ _ _ ?_)
        clear hK' K' hK K
        refine vc_seq ?_
        refine vc_reg (by kernel_rfl) fun K hK => ?_
        refine run_n (z := false) 3 (fun K' hK' => hK' _ _ _ ?_) (by decide)
        clear hK' K'
        refine vgo_known 121 (b := true) (rfl) ?_
        refine run_n (z := false) 5 (fun K' hK' => hK' _ _ _ ?_) (by decide)
        clear hK' K'
        refine vgo_known 126 (b := true) (bb ((rn_beq _ _).trans (decide_eq_true rfl))) ?_
        refine run_n (z := false) 2 (fun K' hK' => hK' _ _ _ ?_) (by decide)
        clear hK' K'
        refine run_ro (fun k => if k = 0 then (28, 0) else (2, 0)) (same_ro l c4 c2 (by omega)) ?_ rfl rfl rfl rfl ?_
        · intro x hx
          simp only [List.mem_cons, List.mem_singleton, List.not_mem_nil, or_false] at hx
          rcases hx with rfl | rfl
          · exact ⟨_, _, _, rfl, get_zero_app⟩
          · exact ⟨_, _, _, rfl, fun i v hv => (congrArg (fun k => (rws rc l)[k]?) (Nat.zero_add i)).trans hv⟩
        refine run_end (z := false) fun K' hK' => hK' _ _ _ (hK _ _ _ ?_)
        clear hK' K' hK K
        exact vc_ret ⟨.inr rfl, rfl⟩
      · skip
        refine vc_reg (by kernel_rfl) fun K hK => ?_
        refine run_n (z := false) 3 (fun K' hK' => hK' _ _ _ ?_) (by decide)
        clear hK' K'
        refine run_call (k42) rfl rfl rfl rfl ?_
        refine run_n (z := false) 2 (fun K' hK' => hK' _ _ _ ?_) (by decide)
        clear hK' K'
        refine vgo_known 104 (b := false) (bb (beq_eq_false_iff_ne.2 heq)) ?_
        refine run_end (z := false) fun K' hK' => hK' _ _ _ (hK _ _ _ ?_)
        clear hK' K' hK K
        refine vc_cond (t := false) rfl (fun h => by cases h) (fun _ => ?_)
        refine vc_skip ?_
        refine vc_seq ?_
        refine vc_reg (by kernel_rfl) fun K hK => ?_
        refine run_n (z := false) 3 (fun K' hK' => hK' _ _ _ ?_) (by decide)
        clear hK' K'
        refine run_fc (fun _ => (12, 0)) (h49 c3) (hasF ⟨sf_winp (rcs_plain _) rfl get_zero_app, trivial⟩ rfl) rfl rfl rfl rfl ⟨_, _, _, [], Nat.le_refl _, rfl, rfl, rfl⟩ ?_
        rintro _ _ ⟨c4, sp4, _, hp4, rfl, rfl⟩
        rw [renU_c (renB_p (plainL_append (rcs_plain _) hp4)) renU_nil]
        refine run_end (z := false) fun K' hK' => hK' _ _ _ (hK _ _ _ ?_)
        clear hK' K' hK K
        refine vc_seq ?_
        refine vc_reg (by kernel_rfl) fun K hK => ?_
        refine run_n (z := false) 3 (fun K' hK' => hK' _ _ _ ?_) (by decide)
        clear hK' K'
        refine vgo_known 121 (b := true) (rfl) ?_
        refine run_n (z := false) 5 (fun K' hK' => hK' _ _ _ ?_) (by decide)
        clear hK' K'
        refine vgo_known 126 (b := true) (bb ((rn_beq _ _).trans (decide_eq_true rfl))) ?_
        refine run_n (z := false) 2 (fun K' hK' => hK' _ _ _ ?_) (by decide)
        clear hK' K'
        refine run_ro (fun k => if k = 0 then (28, 0) else (2, 0)) (same_ro l c4 c2 (by omega)) ?_ rfl rfl rfl rfl ?_
        · intro x hx
          simp only [List.mem_cons, List.mem_singleton, List.not_mem_nil, or_false] at hx
          rcases hx with rfl | rfl
          · exact ⟨_, _, _, rfl, get_zero_app⟩
          · exact ⟨_, _, _, rfl, fun i v hv => (congrArg (fun k => (rws rc l)[k]?) (Nat.zero_add i)).trans hv⟩
        refine run_end (z := false) fun K' hK' => hK' _ _ _ (hK _ _ _ ?_)
        clear hK' K' hK K
        exact vc_ret ⟨.inr rfl, rfl⟩
    · skip
      refine vc_reg (by kernel_rfl) fun K hK => ?_
      refine run_n (z := false) 3 (fun K' hK' => hK' _ _ _ ?_) (by decide)
      clear hK' K'
      refine run_call (h48) rfl rfl rfl rfl ?_
      refine run_n (z := false) 2 (fun K' hK' => hK' _ _ _ ?_) (by decide)
      clear hK' K'
      refine vgo_known 88 (b := false) (rfl) ?_
      refine run_n (z := false) 3 (fun K' hK' => hK' _ _ _ ?_) (by decide)
      clear hK' K'
      refine vgo_known 91 (b := false) (bb (by simp; omega)) ?_
      refine run_end (z := false) fun K' hK' => hK' _ _ _ (hK _ _ _ ?_)
      clear hK' K' hK K
      refine vc_cond (t := false) rfl (fun h => by cases h) (fun _ => ?_)
      refine vc_skip ?_
      refine vc_seq ?_
      refine vc_seq ?_
      by_cases heq : cmpW (r.n * v) (a * r.w) = 0
      · have hTn : joinT l r b = r.n := by
          rw [hT]
          refine join_top hv ?_
          rw [cmpW_eq] at heq
          exact heq
        refine vc_reg (by kernel_rfl) fun K hK => ?_
        refine run_n (z := false) 3 (fun K' hK' => hK' _ _ _ ?_) (by decide)
        clear hK' K'
        refine run_call (k42) rfl rfl rfl rfl ?_
        refine run_n (z := false) 2 (fun K' hK' => hK' _ _ _ ?_) (by decide)
        clear hK' K'
        refine vgo_known 104 (b := true) (bb (by rw [heq]; rfl)) ?_
        refine run_end (z := false) fun K' hK' => hK' _ _ _ (hK _ _ _ ?_)
        clear hK' K' hK K
        refine vc_cond (t := false) (bb (by rw [hTn]; exact fr_neq r.n r.w)) (fun h => by cases h) (fun _ => ?_)
        refine vc_skip ?_
        refine vc_seq ?_
        refine vc_reg (by kernel_rfl) fun K hK => ?_
        refine run_n (z := false) 3 (fun K' hK' => hK' _ _ _ ?_) (by decide)
        clear hK' K'
        refine run_fc (fun _ => (12, 0)) (h49 c3) (hasF ⟨sf_winp (rcs_plain _) rfl get_zero_app, trivial⟩ rfl) rfl rfl rfl rfl ⟨_, _, _, [], Nat.le_refl _, rfl, rfl, rfl⟩ ?_
        rintro _ _ ⟨c4, sp4, _, hp4, rfl, rfl⟩
        rw [renU_c (renB_p (plainL_append (rcs_plain _) hp4)) renU_nil]
        refine run_end (z := false) fun K' hK' => hK' _ _ _ (hK _ _ _ ?_)
        clear hK' K' hK K
        refine vc_seq ?_
        refine vc_reg (by kernel_rfl) fun K hK => ?_
        refine run_n (z := false) 3 (fun K' hK' => hK' _ _ _ ?_) (by decide)
        clear hK' K'
        refine vgo_known 121 (b := true) (rfl) ?_
        refine run_n (z := false) 5 (fun K' hK' => hK' _ _ _ ?_) (by decide)
        clear hK' K'
        refine vgo_known 126 (b := true) (bb ((rn_beq _ _).trans (decide_eq_true rfl))) ?_
        refine run_n (z := false) 2 (fun K' hK' => hK' _ _ _ ?_) (by decide)
        clear hK' K'
        refine run_ro (fun k => if k = 0 then (28, 0) else (2, 0)) (same_ro l c4 c2 (by omega)) ?_ rfl rfl rfl rfl ?_
        · intro x hx
          simp only [List.mem_cons, List.mem_singleton, List.not_mem_nil, or_false] at hx
          rcases hx with rfl | rfl
          · exact ⟨_, _, _, rfl, get_zero_app⟩
          · exact ⟨_, _, _, rfl, fun i v hv => (congrArg (fun k => (rws rc l)[k]?) (Nat.zero_add i)).trans hv⟩
        refine run_end (z := false) fun K' hK' => hK' _ _ _ (hK _ _ _ ?_)
        clear hK' K' hK K
        exact vc_ret ⟨.inr rfl, rfl⟩
      · skip
        refine vc_reg (by kernel_rfl) fun K hK => ?_
        refine run_n (z := false) 3 (fun K' hK' => hK' _ _ _ ?_) (by decide)
        clear hK' K'
        refine run_call (k42) rfl rfl rfl rfl ?_
        refine run_n (z := false) 2 (fun K' hK' => hK' _ _ _ ?_) (by decide)
        clear hK' K'
        refine vgo_known 104 (b := false) (bb (beq_eq_false_iff_ne.2 heq)) ?_
        refine run_end (z := false) fun K' hK' => hK' _ _ _ (hK _ _ _ ?_)
        clear hK' K' hK K
        refine vc_cond (t := false) rfl (fun h => by cases h) (fun _ => ?_)
        refine vc_skip ?_
        refine vc_seq ?_
        refine vc_reg (by kernel_rfl) fun K hK => ?_
        refine run_n (z := false) 3 (fun K' hK' => hK' _ _ _ ?_) (by decide)
        clear hK' K'
        refine run_fc (fun _ => (12, 0)) (h49 c3) (hasF ⟨sf_winp (rcs_plain _) rfl get_zero_app, trivial⟩ rfl) rfl rfl rfl rfl ⟨_, _, _, [], Nat.le_refl _, rfl, rfl, rfl⟩ ?_
        rintro _ _ ⟨c4, sp4, _, hp4, rfl, rfl⟩
        rw [renU_c (renB_p (plainL_append (rcs_plain _) hp4)) renU_nil]
        refine run_end (z := false) fun K' hK' => hK' _ _ _ (hK _ _ _ ?_)
        clear hK' K' hK K
        refine vc_seq ?_
        refine vc_reg (by kernel_rfl) fun K hK => ?_
        refine run_n (z := false) 3 (fun K' hK' => hK' _ _ _ ?_) (by decide)
        clear hK' K'
        refine vgo_known 121 (b := true) (rfl) ?_
        refine run_n (z := false) 5 (fun K' hK' => hK' _ _ _ ?_) (by decide)
        clear hK' K'
        refine vgo_known 126 (b := true) (bb ((rn_beq _ _).trans (decide_eq_true rfl))) ?_
        refine run_n (z := false) 2 (fun K' hK' => hK' _ _ _ ?_) (by decide)
        clear hK' K'
        refine run_ro (fun k => if k = 0 then (28, 0) else (2, 0)) (same_ro l c4 c2 (by omega)) ?_ rfl rfl rfl rfl ?_
        · intro x hx
          simp only [List.mem_cons, List.mem_singleton, List.not_mem_nil, or_false] at hx
          rcases hx with rfl | rfl
          · exact ⟨_, _, _, rfl, get_zero_app⟩
          · exact ⟨_, _, _, rfl, fun i v hv => (congrArg (fun k => (rws rc l)[k]?) (Nat.zero_add i)).trans hv⟩
        refine run_end (z := false) fun K' hK' => hK' _ _ _ (hK _ _ _ ?_)
        clear hK' K' hK K
        exact vc_ret ⟨.inr rfl, rfl⟩
theorem p9nil (r : Rn) (b : Nat) (hb64 : b < 2 ^ 64) : Pure 9 [qnil, rv r, u64 b] (.bool true) := by
  refine pure_of Try.func9 rfl Try.ntmps9 (by kernel_rfl) rfl (by simp) rfl ?_
  refine vc_seq ?_
  refine vc_go (by kernel_rfl) fun K hK => hK _ _ _ ?_
  clear hK K
  refine vc_seq ?_
  refine vc_seq ?_
  refine vc_reg (by kernel_rfl) fun K hK => ?_
  refine run_call (p38) rfl rfl rfl rfl ?_
  refine run_end (z := false) fun K' hK' => hK' _ _ _ (hK _ _ _ ?_)
  clear hK' K' hK K
  refine vc_cond (t := false) rfl (fun h => by cases h) (fun _ => ?_)
  refine vc_skip ?_
  refine vc_seq ?_
  refine vc_reg (by kernel_rfl) fun K hK => ?_
  refine run_n (z := false) 1 (fun K' hK' => hK' _ _ _ ?_) (by decide)
  clear hK' K'
  refine run_fc (fun k => (k, 0)) p39nil (hasF trivial rfl) rfl rfl rfl rfl ⟨_, _, rfl, rfl⟩ ?_
  rintro _ _ ⟨rfl, rfl⟩
  refine run_end (z := false) fun K' hK' => hK' _ _ _ (hK _ _ _ ?_)
  clear hK' K' hK K
  obtain ⟨c2, hc2⟩ : ∃ c2, c2 = 0 := ⟨_, rfl⟩
  obtain ⟨l, hll⟩ : ∃ l : List Rn, l = [] := ⟨_, rfl⟩
  have hlc : l.length ≤ c2 := by rw [hll]; exact Nat.zero_le _
  have hl : l.length ≤ 17 := by rw [hll]; decide
  refine renF (fun k => if k = 0 then 1 else if k = 1 then 4 else 3) [(2, u64 b), (4, .pointer (some ⟨0, 0, none⟩)), (6, .bool false), (7, .pointer (some ⟨1, 0, none⟩))] [(0, .cells (rc r) 67 true), (1, .cells [.slice (some ⟨2, 0, none⟩) l.length c2] 55 true), (2, .cells (rws rc l) 67 false)] 3 (by decide) (fun m hm => absurd hm (Nat.not_lt_zero m)) ⟨rfl, rfl, rfl, rfl, trivial⟩ (by subst hll; subst hc2; exact ⟨sf_ownp (rc_plain r) rfl rfl, sf_own rfl rfl, sf_winp (rcs_plain _) rfl get_zero, trivial⟩) rfl (bdH_c (by decide) (rc_plain r) (bdH_b (by decide) rfl (bdH_c (by decide) (rcs_plain l) rfl))) rfl ?_
  refine vc_seq ?_
  rcases near_cases l r b c2 hl hlc with ⟨e, he, hee, h46⟩ | ⟨he, hq, ht, h46⟩ | ⟨a, v, he, hq, ht, h46⟩
  · have h40 := p40 l c2 (by omega)
    refine vc_reg (by kernel_rfl) fun K hK => ?_
    refine run_n (z := false) 1 (fun K' hK' => hK' _ _ _ ?_) (by decide)
    clear hK' K'
    refine run_ro (fun _ => (2, 0)) (h40) ?_ rfl rfl rfl rfl ?_
    · intro x hx
      simp only [List.mem_singleton] at hx
      subst hx
      exact ⟨_, _, _, rfl, fun i v hv => by rw [Nat.zero_add]; exact hv⟩
    refine run_end (z := false) fun K' hK' => hK' _ _ _ (hK _ _ _ ?_)
    clear hK' K' hK K
    refine vc_seq ?_
    refine vc_reg (by kernel_rfl) fun K hK => ?_
    refine run_n (z := false) 3 (fun K' hK' => hK' _ _ _ ?_) (by decide)
    clear hK' K'
    refine run_fc (fun _ => (2, 0)) h46 (hasF ⟨sf_winp (rcs_plain l) rfl get_zero, trivial⟩ rfl) rfl rfl rfl rfl ⟨_, _, rfl, rfl⟩ ?_
    rintro _ _ ⟨rfl, rfl⟩
    refine run_end (z := false) fun K' hK' => hK' _ _ _ (hK _ _ _ ?_)
    clear hK' K' hK K
    refine vc_seq ?_
    refine vc_seq ?_
    refine vc_go (by kernel_rfl) fun K hK => hK _ _ _ ?_
    clear hK K
    refine vc_cond (t := true) (bb (bne_iff_ne.2 he)) (fun _ => ?_) (fun h => by cases h)
    refine vc_seq ?_
    refine vc_go (by kernel_rfl) fun K hK => hK _ _ _ ?_
    clear hK K
    exact vc_ret ⟨.inr rfl, rfl⟩
  · have h40 := p40 l c2 (by omega)
    rw [topQ_yes hq, ht] at h40
    obtain ⟨jok, jlen, jget, jdel, jat, jq, jb⟩ := joinQ_ok he
    obtain ⟨_, hr, _, hb, hfit⟩ := join_fits he
    have h43 := fun c => p43 (joinQ l r b) c r.id (by omega)
    have h47 := fun c => p47 (joinQ l r b) c (by omega)
    simp only [jq, chk1_yes jok, jlen] at h43 h47
    have hw1 : IntKind.i64.wrap ((l.length : Int) + 1) = ((l.length + 1 : Nat) : Int) := by rw [wrapI (by omega) (by omega)]; omega
    have hT : joinT l r b = r.n := by unfold joinT; rw [ht]
    refine vc_reg (by kernel_rfl) fun K hK => ?_
    refine run_n (z := false) 1 (fun K' hK' => hK' _ _ _ ?_) (by decide)
    clear hK' K'
    refine run_ro (fun _ => (2, 0)) (h40) ?_ rfl rfl rfl rfl ?_
    · intro x hx
      simp only [List.mem_singleton] at hx
      subst hx
      exact ⟨_, _, _, rfl, fun i v hv => by rw [Nat.zero_add]; exact hv⟩
    refine run_end (z := false) fun K' hK' => hK' _ _ _ (hK _ _ _ ?_)
    clear hK' K' hK K
    refine vc_seq ?_
    refine vc_reg (by kernel_rfl) fun K hK => ?_
    refine run_n (z := false) 3 (fun K' hK' => hK' _ _ _ ?_) (by decide)
    clear hK' K'
    refine run_fc (fun _ => (2, 0)) h46 (hasF ⟨sf_winp (rcs_plain l) rfl get_zero, trivial⟩ rfl) rfl rfl rfl rfl ⟨_, _, 0, [], rfl, rfl, rfl⟩ ?_
    rintro _ _ ⟨c3, sp3, hp3, rfl, rfl⟩
    rw [renU_c (renB_p (plainL_append (rcs_plain _) hp3)) renU_nil]
    refine run_end (z := false) fun K' hK' => hK' _ _ _ (hK _ _ _ ?_)
    clear hK' K' hK K
    refine refocusF [(2, u64 b), (4, .pointer (some ⟨0, 0, none⟩)), (6, .bool false), (7, .pointer (some ⟨1, 0, none⟩)), (8, .pointer (some ⟨8, 0, none⟩)), (9, .bool false), (10, .pointer (some ⟨16, 0, none⟩)), (11, .int .i64 0)] [(0, .cells (rc r) 67 true), (1, .cells [.slice (some ⟨2, 0, none⟩) l.length c2] 55 true), (2, .cells (rws rc l) 67 false), (8, .cells (frc 0 0) 58 true), (12, .cells (rws rc (joinQ l r b) ++ sp3) 67 true), (16, .cells [.slice (some ⟨12, 0, none⟩) (l.length + 1) c3] 55 true)] 17 (by decide) ⟨rfl, rfl, rfl, rfl, rfl, rfl, rfl, rfl, trivial⟩ ⟨sb rfl, sb rfl, sb rfl, sb rfl, sb rfl, sb rfl, trivial⟩ rfl (bdH_c (by decide) (rc_plain r) (bdH_b (by decide) rfl (bdH_c (by decide) (rcs_plain l) (bdH_c (by decide) (by rfl) (bdH_c (by decide) (plainL_append (rcs_plain _) hp3) (bdH_b (by decide) rfl rfl)))))) ?_
    refine vc_seq ?_
    refine vc_seq ?_
    refine vc_go (by kernel_rfl) fun K hK => hK _ _ _ ?_
    clear hK K
    refine vc_cond (t := false) rfl (fun h => by cases h) (fun _ => ?_)
    refine vc_skip ?_
    refine vc_seq ?_
    refine vc_reg (by kernel_rfl) fun K hK => ?_
    refine run_n (z := false) 3 (fun K' hK' => hK' _ _ _ ?_) (by decide)
    clear hK' K'
    refine run_ro (fun _ => (12, 0)) ((h43 c3)) ?_ rfl rfl rfl rfl ?_
    · intro x hx
      simp only [List.mem_singleton] at hx
      subst hx
      exact ⟨_, _, _, rfl, get_zero_app⟩
    refine run_end (z := false) fun K' hK' => hK' _ _ _ (hK _ _ _ ?_)
    clear hK' K' hK K
    refine vc_seq ?_
    refine vc_seq ?_
    refine vc_reg (by kernel_rfl) fun K hK => ?_
    refine run_n (z := false) 3 (fun K' hK' => hK' _ _ _ ?_) (by decide)
    clear hK' K'
    refine vgo_known 47 (b := false) (rfl) ?_
    refine run_n (z := false) 1 (fun K' hK' => hK' _ _ _ ?_) (by decide)
    clear hK' K'
    refine run_ro (fun _ => (12, 0)) ((h47 c3)) ?_ rfl rfl rfl rfl ?_
    · intro x hx
      simp only [List.mem_singleton] at hx
      subst hx
      exact ⟨_, _, _, rfl, get_zero_app⟩
    refine run_n (z := false) 3 (fun K' hK' => hK' _ _ _ ?_) (by decide)
    clear hK' K'
    refine vgo_known 52 (b := false) (rfl) ?_
    refine run_n (z := false) 10 (fun K' hK' => hK' _ _ _ ?_) (by decide)
    clear hK' K'
    refine vgo_known 62 (b := false) (bb (by rw [hw1]; simp)) ?_
    refine run_n (z := false) 7 (fun K' hK' => hK' _ _ _ ?_) (by decide)
    clear hK' K'
    refine vgo_known 69 (b := false) (bb (by simp)) ?_
    refine run_end (z := false) fun K' hK' => hK' _ _ _ (hK _ _ _ ?_)
    clear hK' K' hK K
    refine vc_cond (t := false) (bb (by simp)) (fun h => by cases h) (fun _ => ?_)
    refine vc_skip ?_
    refine vc_seq ?_
    refine vc_seq ?_
    refine vc_go (by kernel_rfl) fun K hK => hK _ _ _ ?_
    clear hK K
    refine vc_cond (t := true) rfl (fun _ => ?_) (fun h => by cases h)
    refine vc_seq ?_
    refine vc_go (by kernel_rfl) fun K hK => hK _ _ _ ?_
    clear hK K
    refine vc_ret ⟨.inr rfl, ?_⟩
    exact fin_bb ((rn_beq _ _).trans (decide_eq_true (by rw [hT]; rfl)))
  · have h40 := p40 l c2 (by omega)
    rw [topQ_yes hq, ht] at h40
    obtain ⟨jok, jlen, jget, jdel, jat, jq, jb⟩ := joinQ_ok he
    obtain ⟨_, hr, _, hb, hfit⟩ := join_fits he
    have h43 := fun c => p43 (joinQ l r b) c r.id (by omega)
    have h47 := fun c => p47 (joinQ l r b) c (by omega)
    simp only [jq, chk1_yes jok, jlen] at h43 h47
    have hw1 : IntKind.i64.wrap ((l.length : Int) + 1) = ((l.length + 1 : Nat) : Int) := by rw [wrapI (by omega) (by omega)]; omega
    have hra : rt a v = true := topS_rt (okq_mem hq) (fun x h => by cases h) _ ht
    have hv : 0 < v := (rt_w hra).1
    have hrr : rt r.n r.w = true := okR_rt hr
    have hA := hfit a v ht
    have hT : joinT l r b = joinN a v r.w (b * r.each.toNat) r.n := by unfold joinT; rw [ht]
    have hrT : rt (joinT l r b) r.w = true := rt_mk (rt_wt hrr) (joinT_lt he)
    obtain ⟨n1, n2⟩ := join_near (a := a) (v := v) (w := r.w) (k := b * r.each.toNat) (n := r.n) hv
    rw [← hT] at n1 n2
    have h48 : Pure 48 [fr (joinT l r b) r.w, fr a v] (.bool true) := by
      rcases Nat.eq_zero_or_pos (joinT l r b) with h | h
      · exact p48a hrT hra n1 h
      · refine p48b hrT hra n1 (by omega) ?_
        rcases n2 with n2 | n2
        · omega
        · unfold cmpW
          rw [if_pos n2]
          decide
    have h42 := p42y hrT hra
    have k42 := p42y hrr hra
    have h49 := fun c => leave_ok c (by omega) jok jget
    simp only [jdel, jlen, Nat.add_sub_cancel] at h49
    refine vc_reg (by kernel_rfl) fun K hK => ?_
    refine run_n (z := false) 1 (fun K' hK' => hK' _ _ _ ?_) (by decide)
    clear hK' K'
    refine run_ro (fun _ => (2, 0)) (h40) ?_ rfl rfl rfl rfl ?_
    · intro x hx
      simp only [List.mem_singleton] at hx
      subst hx
      exact ⟨_, _, _, rfl, fun i v hv => by rw [Nat.zero_add]; exact hv⟩
    refine run_end (z := false) fun K' hK' => hK' _ _ _ (hK _ _ _ ?_)
    clear hK' K' hK K
    refine vc_seq ?_
    refine vc_reg (by kernel_rfl) fun K hK => ?_
    refine run_n (z := false) 3 (fun K' hK' => hK' _ _ _ ?_) (by decide)
    clear hK' K'
    refine run_fc (fun _ => (2, 0)) h46 (hasF ⟨sf_winp (rcs_plain l) rfl get_zero, trivial⟩ rfl) rfl rfl rfl rfl ⟨_, _, 0, [], rfl, rfl, rfl⟩ ?_
    rintro _ _ ⟨c3, sp3, hp3, rfl, rfl⟩
    rw [renU_c (renB_p (plainL_append (rcs_plain _) hp3)) renU_nil]
    refine run_end (z := false) fun K' hK' => hK' _ _ _ (hK _ _ _ ?_)
    clear hK' K' hK K
    refine refocusF [(2, u64 b), (4, .pointer (some ⟨0, 0, none⟩)), (6, .bool false), (7, .pointer (some ⟨1, 0, none⟩)), (8, .pointer (some ⟨8, 0, none⟩)), (9, .bool true), (10, .pointer (some ⟨16, 0, none⟩)), (11, .int .i64 0)] [(0, .cells (rc r) 67 true), (1, .cells [.slice (some ⟨2, 0, none⟩) l.length c2] 55 true), (2, .cells (rws rc l) 67 false), (8, .cells (frc a v) 58 true), (12, .cells (rws rc (joinQ l r b) ++ sp3) 67 true), (16, .cells [.slice (some ⟨12, 0, none⟩) (l.length + 1) c3] 55 true)] 17 (by decide) ⟨rfl, rfl, rfl, rfl, rfl, rfl, rfl, rfl, trivial⟩ ⟨sb rfl, sb rfl, sb rfl, sb rfl, sb rfl, sb rfl, trivial⟩ rfl (bdH_c (by decide) (rc_plain r) (bdH_b (by decide) rfl (bdH_c (by decide) (rcs_plain l) (bdH_c (by decide) (by rfl) (bdH_c (by decide) (plainL_append (rcs_plain _) hp3) (bdH_b (by decide) rfl rfl)))))) ?_
    refine vc_seq ?_
    refine vc_seq ?_
    refine vc_go (by kernel_rfl) fun K hK => hK _ _ _ ?_
    clear hK K
    refine vc_cond (t := false) rfl (fun h => by cases h) (fun _ => ?_)
    refine vc_skip ?_
    refine vc_seq ?_
    refine vc_reg (by kernel_rfl) fun K hK => ?_
    refine run_n (z := false) 3 (fun K' hK' => hK' _ _ _ ?_) (by decide)
    clear hK' K'
    refine run_ro (fun _ => (12, 0)) ((h43 c3)) ?_ rfl rfl rfl rfl ?_
    · intro x hx
      simp only [List.mem_singleton] at hx
      subst hx
      exact ⟨_, _, _, rfl, get_zero_app⟩
    refine run_end (z := false) fun K' hK' => hK' _ _ _ (hK _ _ _ ?_)
    clear hK' K' hK K
    refine vc_seq ?_
    refine vc_seq ?_
    refine vc_reg (by kernel_rfl) fun K hK => ?_
    refine run_n (z := false) 3 (fun K' hK' => hK' _ _ _ ?_) (by decide)
    clear hK' K'
    refine vgo_known 47 (b := false) (rfl) ?_
    refine run_n (z := false) 1 (fun K' hK' => hK' _ _ _ ?_) (by decide)
    clear hK' K'
    refine run_ro (fun _ => (12, 0)) ((h47 c3)) ?_ rfl rfl rfl rfl ?_
    · intro x hx
      simp only [List.mem_singleton] at hx
      subst hx
      exact ⟨_, _, _, rfl, get_zero_app⟩
    refine run_n (z := false) 3 (fun K' hK' => hK' _ _ _ ?_) (by decide)
    clear hK' K'
    refine vgo_known 52 (b := false) (rfl) ?_
    refine run_n (z := false) 10 (fun K' hK' => hK' _ _ _ ?_) (by decide)
    clear hK' K'
    refine vgo_known 62 (b := false) (bb (by rw [hw1]; simp)) ?_
    refine run_n (z := false) 7 (fun K' hK' => hK' _ _ _ ?_) (by decide)
    clear hK' K'
    refine vgo_known 69 (b := false) (bb (by simp)) ?_
    refine run_end (z := false) fun K' hK' => hK' _ _ _ (hK _ _ _ ?_)
    clear hK' K' hK K
    refine vc_cond (t := false) (bb (by simp)) (fun h => by cases h) (fun _ => ?_)
    refine vc_skip ?_
    refine vc_seq ?_
    refine vc_seq ?_
    refine vc_go (by kernel_rfl) fun K hK => hK _ _ _ ?_
    clear hK K
    refine vc_cond (t := false) rfl (fun h => by cases h) (fun _ => ?_)
    refine vc_skip ?_
    refine vc_seq ?_
    refine vc_seq ?_
    by_cases hb0 : b = 0
    · have hz : cmpW (joinT l r b * v) (a * r.w) < 0 → False := by
        intro h
        rw [hT, hb0, Nat.zero_mul, join_zero] at h
        have := sc_ge' (a := a) (m := r.w) (d := v) hv
        unfold cmpW at h
        split at h
        · omega
        · split at h <;> simp at h
      refine vc_reg (by kernel_rfl) fun K hK => ?_
      refine run_n (z := false) 3 (fun K' hK' => hK' _ _ _ ?_) (by decide)
      clear hK' K'
      refine run_call (h48) rfl rfl rfl rfl ?_
      refine run_n (z := false) 2 (fun K' hK' => hK' _ _ _ ?_) (by decide)
      clear hK' K'
      refine vgo_known 88 (b := false) (rfl) ?_
      refine run_n (z := false) 3 (fun K' hK' => hK' _ _ _ ?_) (by decide)
      clear hK' K'
      refine vgo_known 91 (b := true) (bb (by simp [hb0])) ?_
      refine run_n (z := false) 3 (fun K' hK' => hK' _ _ _ ?_) (by decide)
      clear hK' K'
      refine run_call (h42) rfl rfl rfl rfl ?_
      refine run_end (z := false) fun K' hK' => hK' _ _ _ (hK _ _ _ ?_)
      clear hK' K' hK K
      refine vc_cond (t := false) (bb (decide_eq_false hz)) (fun h => by cases h) (fun _ => ?_)
      refine vc_skip ?_
      refine vc_seq ?_
      refine vc_seq ?_
      by_cases heq : cmpW (r.n * v) (a * r.w) = 0
      · have hTn : joinT l r b = r.n := by
          rw [hT]
          refine join_top hv ?_
          rw [cmpW_eq] at heq
          exact heq
        refine vc_reg (by kernel_rfl) fun K hK => ?_
        refine run_n (z := false) 3 (fun K' hK' => hK' _ _ _ ?_) (by decide)
        clear hK' K'
        refine run_call (k42) rfl rfl rfl rfl ?_
        refine run_n (z := false) 2 (fun K' hK' => hK' _ _ _ ?_) (by decide)
        clear hK' K'
        refine vgo_known 104 (b := true) (bb (by rw [heq]; rfl)) ?_
        refine run_end (z := false) fun K' hK' => hK' _ _ _ (hK _ _ _ ?_)
        clear hK' K' hK K
        refine vc_cond (t := false) (bb (by rw [hTn]; exact fr_neq r.n r.w)) (fun h => by cases h) (fun _ => ?_)
        refine vc_skip ?_
        refine vc_seq ?_
        refine vc_reg (by kernel_rfl) fun K hK => ?_
        refine run_n (z := false) 3 (fun K' hK' => hK' _ _ _ ?_) (by decide)
        clear hK' K'
        refine run_fc (fun _ => (12, 0)) (h49 c3) (hasF ⟨sf_winp (rcs_plain _) rfl get_zero_app, trivial⟩ rfl) rfl rfl rfl rfl ⟨_, _, _, [], Nat.le_refl _, rfl, rfl, rfl⟩ ?_
        rintro _ _ ⟨c4, sp4, _, hp4, rfl, rfl⟩
        rw [renU_c (renB_p (plainL_append (rcs_plain _) hp4)) renU_nil]
        refine run_end (z := false) fun K' hK' => hK' _ _ _ (hK _ _ _ ?_)
        clear hK' K' hK K
        refine vc_seq ?_
        refine vc_reg (by kernel_rfl) fun K hK => ?_
        refine run_n (z := false) 3 (fun K' hK' => hK' _ _ _ ?_) (by decide)
        clear hK' K'
        refine vgo_known 121 (b := true) (rfl) ?_
        refine run_n (z := false) 5 (fun K' hK' => hK' _ _ _ ?_) (by decide)
        clear hK' K'
        refine vgo_known 126 (b := true) (bb ((rn_beq _ _).trans (decide_eq_true rfl))) ?_
        refine run_n (z := false) 2 (fun K' hK' => hK' _ _ _ ?_) (by decide)
        clear hK' K'
        refine run_ro (fun k => if k = 0 then (28, 0) else (2, 0)) (same_ro l c4 c2 (by omega)) ?_ rfl rfl rfl rfl ?_
        · intro x hx
          simp only [List.mem_cons, List.mem_singleton, List.not_mem_nil, or_false] at hx
          rcases hx with rfl | rfl
          · exact ⟨_, _, _, rfl, get_zero_app⟩
          · exact ⟨_, _, _, rfl, fun i v hv => (congrArg (fun k => (rws rc l)[k]?) (Nat.zero_add i)).trans hv⟩
        refine run_end (z := false) fun K' hK' => hK' _ _ _ (hK _ _ _ ?_)
        clear hK' K' hK K
        exact vc_ret ⟨.inr rfl, rfl⟩
      · skip
        refine vc_reg (by kernel_rfl) fun K hK => ?_
        refine run_n (z := false) 3 (fun K' hK' => hK' _ _ _ ?_) (by decide)
        clear hK' K'
        refine run_call (k42) rfl rfl rfl rfl ?_
        refine run_n (z := false) 2 (fun K' hK' => hK' _ _ _ ?_) (by decide)
        clear hK' K'
        refine vgo_known 104 (b := false) (bb (beq_eq_false_iff_ne.2 heq)) ?_
        refine run_end (z := false) fun K' hK' => hK' _ _ _ (hK _ _ _ ?_)
        clear hK' K' hK K
        refine vc_cond (t := false) rfl (fun h => by cases h) (fun _ => ?_)
        refine vc_skip ?_
        refine vc_seq ?_
        refine vc_reg (by kernel_rfl) fun K hK => ?_
        refine run_n (z := false) 3 (fun K' hK' => hK' _ _ _ ?_) (by decide)
        clear hK' K'
        refine run_fc (fun _ => (12, 0)) (h49 c3) (hasF ⟨sf_winp (rcs_plain _) rfl get_zero_app, trivial⟩ rfl) rfl rfl rfl rfl ⟨_, _, _, [], Nat.le_refl _, rfl, rfl, rfl⟩ ?_
        rintro _ _ ⟨c4, sp4, _, hp4, rfl, rfl⟩
        rw [renU_c (renB_p (plainL_append (rcs_plain _) hp4)) renU_nil]
        refine run_end (z := false) fun K' hK' => hK' _ _ _ (hK _ _ _ ?_)
        clear hK' K' hK K
        refine vc_seq ?_
        refine vc_reg (by kernel_rfl) fun K hK => ?_
        refine run_n (z := false) 3 (fun K' hK' => hK' _ _ _ ?_) (by decide)
        clear hK' K'
        refine vgo_known 121 (b := true) (rfl) ?_
        refine run_n (z := false) 5 (fun K' hK' => hK' _ _ _ ?_) (by decide)
        clear hK' K'
        refine vgo_known 126 (b := true) (bb ((rn_beq _ _).trans (decide_eq_true rfl))) ?_
        refine run_n (z := false) 2 (fun K' hK' => hK' _ _ _ ?_) (by decide)
        clear hK' K'
        refine run_ro (fun k => if k = 0 then (28, 0) else (2, 0)) (same_ro l c4 c2 (by omega)) ?_ rfl rfl rfl rfl ?_
        · intro x hx
          simp only [List.mem_cons, List.mem_singleton, List.not_mem_nil, or_false] at hx
          rcases hx with rfl | rfl
          · exact ⟨_, _, _, rfl, get_zero_app⟩
          · exact ⟨_, _, _, rfl, fun i v hv => (congrArg (fun k => (rws rc l)[k]?) (Nat.zero_add i)).trans hv⟩
        refine run_end (z := false) fun K' hK' => hK' _ _ _ (hK _ _ _ ?_)
        clear hK' K' hK K
        exact vc_ret ⟨.inr rfl, rfl⟩
    · skip
      refine vc_reg (by kernel_rfl) fun K hK => ?_
      refine run_n (z := false) 3 (fun K' hK' => hK' _ _ _ ?_) (by decide)
      clear hK' K'
      refine run_call (h48) rfl rfl rfl rfl ?_
      refine run_n (z := false) 2 (fun K' hK' => hK' _ _ _ ?_) (by decide)
      clear hK' K'
      refine vgo_known 88 (b := false) (rfl) ?_
      refine run_n (z := false) 3 (fun K' hK' => hK' _ _ _ ?_) (by decide)
      clear hK' K'
      refine vgo_known 91 (b := false) (bb (by simp; omega)) ?_
      refine run_end (z := false) fun K' hK' => hK' _ _ _ (hK _ _ _ ?_)
      clear hK' K' hK K
      refine vc_cond (t := false) rfl (fun h => by cases h) (fun _ => ?_)
      refine vc_skip ?_
      refine vc_seq ?_
      refine vc_seq ?_
      by_cases heq : cmpW (r.n * v) (a * r.w) = 0
      · have hTn : joinT l r b = r.n := by
          rw [hT]
          refine join_top hv ?_
          rw [cmpW_eq] at heq
          exact heq
        refine vc_reg (by kernel_rfl) fun K hK => ?_
        refine run_n (z := false) 3 (fun K' hK' => hK' _ _ _ ?_) (by decide)
        clear hK' K'
        refine run_call (k42) rfl rfl rfl rfl ?_
        refine run_n (z := false) 2 (fun K' hK' => hK' _ _ _ ?_) (by decide)
        clear hK' K'
        refine vgo_known 104 (b := true) (bb (by rw [heq]; rfl)) ?_
        refine run_end (z := false) fun K' hK' => hK' _ _ _ (hK _ _ _ ?_)
        clear hK' K' hK K
        refine vc_cond (t := false) (bb (by rw [hTn]; exact fr_neq r.n r.w)) (fun h => by cases h) (fun _ => ?_)
        refine vc_skip ?_
        refine vc_seq ?_
        refine vc_reg (by kernel_rfl) fun K hK => ?_
        refine run_n (z := false) 3 (fun K' hK' => hK' _ _ _ ?_) (by decide)
        clear hK' K'
        refine run_fc (fun _ => (12, 0)) (h49 c3) (hasF ⟨sf_winp (rcs_plain _) rfl get_zero_app, trivial⟩ rfl) rfl rfl rfl rfl ⟨_, _, _, [], Nat.le_refl _, rfl, rfl, rfl⟩ ?_
        rintro _ _ ⟨c4, sp4, _, hp4, rfl, rfl⟩
        rw [renU_c (renB_p (plainL_append (rcs_plain _) hp4)) renU_nil]
        refine run_end (z := false) fun K' hK' => hK' _ _ _ (hK _ _ _ ?_)
        clear hK' K' hK K
        refine vc_seq ?_
        refine vc_reg (by kernel_rfl) fun K hK => ?_
        refine run_n (z := false) 3 (fun K' hK' => hK' _ _ _ ?_) (by decide)
        clear hK' K'
        refine vgo_known 121 (b := true) (rfl) ?_
        refine run_n (z := false) 5 (fun K' hK' => hK' _ _ _ ?_) (by decide)
        clear hK' K'
        refine vgo_known 126 (b := true) (bb ((rn_beq _ _).trans (decide_eq_true rfl))) ?_
        refine run_n (z := false) 2 (fun K' hK' => hK' _ _ _ ?_) (by decide)
        clear hK' K'
        refine run_ro (fun k => if k = 0 then (28, 0) else (2, 0)) (same_ro l c4 c2 (by omega)) ?_ rfl rfl rfl rfl ?_
        · intro x hx
          simp only [List.mem_cons, List.mem_singleton, List.not_mem_nil, or_false] at hx
          rcases hx with rfl | rfl
          · exact ⟨_, _, _, rfl, get_zero_app⟩
          · exact ⟨_, _, _, rfl, fun i v hv => (congrArg (fun k => (rws rc l)[k]?) (Nat.zero_add i)).trans hv⟩
        refine run_end (z := false) fun K' hK' => hK' _ _ _ (hK _ _ _ ?_)
        clear hK' K' hK K
        exact vc_ret ⟨.inr rfl, rfl⟩
      · skip
        refine vc_reg (by kernel_rfl) fun K hK => ?_
        refine run_n (z := false) 3 (fun K' hK' => hK' _ _ _ ?_) (by decide)
        clear hK' K'
        refine run_call (k42) rfl rfl rfl rfl ?_
        refine run_n (z := false) 2 (fun K' hK' => hK' _ _ _ ?_) (by decide)
        clear hK' K'
        refine vgo_known 104 (b := false) (bb (beq_eq_false_iff_ne.2 heq)) ?_
        refine run_end (z := false) fun K' hK' => hK' _ _ _ (hK _ _ _ ?_)
        clear hK' K' hK K
        refine vc_cond (t := false) rfl (fun h => by cases h) (fun _ => ?_)
        refine vc_skip ?_
        refine vc_seq ?_
        refine vc_reg (by kernel_rfl) fun K hK => ?_
        refine run_n (z := false) 3 (fun K' hK' => hK' _ _ _ ?_) (by decide)
        clear hK' K'
        refine run_fc (fun _ => (12, 0)) (h49 c3) (hasF ⟨sf_winp (rcs_plain _) rfl get_zero_app, trivial⟩ rfl) rfl rfl rfl rfl ⟨_, _, _, [], Nat.le_refl _, rfl, rfl, rfl⟩ ?_
        rintro _ _ ⟨c4, sp4, _, hp4, rfl, rfl⟩
        rw [renU_c (renB_p (plainL_append (rcs_plain _) hp4)) renU_nil]
        refine run_end (z := false) fun K' hK' => hK' _ _ _ (hK _ _ _ ?_)
        clear hK' K' hK K
        refine vc_seq ?_
        refine vc_reg (by kernel_rfl) fun K hK => ?_
        refine run_n (z := false) 3 (fun K' hK' => hK' _ _ _ ?_) (by decide)
        clear hK' K'
        refine vgo_known 121 (b := true) (rfl) ?_
        refine run_n (z := false) 5 (fun K' hK' => hK' _ _ _ ?_) (by decide)
        clear hK' K'
        refine vgo_known 126 (b := true) (bb ((rn_beq _ _).trans (decide_eq_true rfl))) ?_
        refine run_n (z := false) 2 (fun K' hK' => hK' _ _ _ ?_) (by decide)
        clear hK' K'
        refine run_ro (fun k => if k = 0 then (28, 0) else (2, 0)) (same_ro l c4 c2 (by omega)) ?_ rfl rfl rfl rfl ?_
        · intro x hx
          simp only [List.mem_cons, List.mem_singleton, List.not_mem_nil, or_false] at hx
          rcases hx with rfl | rfl
          · exact ⟨_, _, _, rfl, get_zero_app⟩
          · exact ⟨_, _, _, rfl, fun i v hv => (congrArg (fun k => (rws rc l)[k]?) (Nat.zero_add i)).trans hv⟩
        refine run_end (z := false) fun K' hK' => hK' _ _ _ (hK _ _ _ ?_)
        clear hK' K' hK K
        exact vc_ret ⟨.inr rfl, rfl⟩
end Go.Proofs.Ytdfkcijholopoaa.Vm
namespace Go.Proofs.Ytdfkcijholopoaa.Vm
open Go Go.RowKit
set_option maxRecDepth 10000
set_option linter.unusedSimpArgs false
set_option linter.unusedVariables false


theorem imin_raw {l : List Int} : (if (17 : Int) < (l.length : Int) then (17 : Int) else (l.length : Int)) = (((l.take 17).length : Nat) : Int) := by
  rw [List.length_take]
  split <;> omega
theorem iget_take {l : List Int} {i : Nat} : ∀ (k : Nat) (v : Value), (rws ic (l.take i))[k]? = some v → (rws ic l)[0 + k]? = some v := by
  have : rws ic l = rws ic (l.take i) ++ rws ic (l.drop i) := by rw [← rws_append, List.take_append_drop]
  rw [this]
  exact get_zero_app
theorem itake17 (l : List Int) : (l.take 17).length ≤ 17 := by rw [List.length_take]; omega
theorem itake17' (l : List Int) : (l.take 17).length ≤ l.length := by rw [List.length_take]; omega
/-- A list of numbers in a block of its own. -/
def OutI (n : Nat) : Value → List (Nat × Blk) → Prop := fun v u => ∃ (L : List Int) (c2 : Nat) (sp : List Value), L.length ≤ 17 ∧ plainL sp = true ∧ v = .slice (some ⟨n, 0, none⟩) L.length c2 ∧ u = [(n, .cells (rws ic L ++ sp) 3 true)]


theorem p113 {ids : List Int} {c : Nat} (hc : ids.length ≤ c) : FC 113 [.slice (some ⟨0, 0, none⟩) ids.length c] 1 [(0, .cells (rws ic ids) 0 false)] (OutI 1) := by
  refine fc_of [(0, .cells (rws ic ids) 0 false)] 1 Try.func113 rfl Try.ntmps113 (by kernel_rfl) (by simp) rfl (bdH_c (by decide) (ics_plain ids) rfl) (hall_of rfl) ?_
  refine vc_seq ?_
  refine vc_go (by kernel_rfl) fun K hK => hK _ _ _ ?_
  clear hK K
  refine vc_seq ?_
  rcases Nat.eq_zero_or_pos (ids.take 17).length with h0 | h0
  · skip
    refine vc_reg (by kernel_rfl) fun K hK => ?_
    refine run_n (z := false) 5 (fun K' hK' => hK' _ _ _ ?_) (by decide)
    clear hK' K'
    refine run_op (vex_cut (j := (ids.take 17).length) rfl rfl imin_raw (Nat.le_trans (itake17' ids) hc) rfl rfl) rfl ?_
    refine run_sp (sp_append_none (z := [i0]) rfl rfl rfl el3 rfl (Nat.le_refl 0) (seg_len0 h0)) rfl rfl rfl ⟨_, _, rfl, rfl⟩ ?_
    rintro _ _ ⟨rfl, rfl⟩
    refine run_end (z := false) fun K' hK' => hK' _ _ _ (hK _ _ _ ?_)
    clear hK' K' hK K
    refine vc_ret ⟨.inr rfl, ?_⟩
    exact res_of 1 _ _ ⟨[], 0, [], by decide, rfl, rfl, rfl⟩ (Nat.le_of_ble_eq_true rfl) rfl rfl ⟨sbu rfl rfl, trivial⟩ rfl rfl (.inl (by simp))
  · skip
    refine vc_reg (by kernel_rfl) fun K hK => ?_
    refine run_n (z := false) 5 (fun K' hK' => hK' _ _ _ ?_) (by decide)
    clear hK' K'
    refine run_op (vex_cut (j := (ids.take 17).length) rfl rfl imin_raw (Nat.le_trans (itake17' ids) hc) rfl rfl) rfl ?_
    refine run_sp (sp_append_new (z := [i0]) rfl rfl rfl el3 .emp (.cells (t := 0) (own := false) (l := rws ic (ids.take 17)) rfl (by rw [rws_len ic_len]; rfl) iget_take) (rws_one ic_one _) h0 (by have := itake17 ids; omega)) rfl rfl rfl ⟨_, _, _, Nat.le_refl _, rfl, rfl⟩ ?_
    rintro _ _ ⟨c2, hc2, rfl, rfl⟩
    refine run_end (z := false) fun K' hK' => hK' _ _ _ (hK _ _ _ ?_)
    clear hK' K' hK K
    refine vc_ret ⟨.inr rfl, ?_⟩
    exact res_of 7 _ _ ⟨(ids.take 17), c2, _, itake17 ids, zrow_plain rfl _, rfl, rfl⟩ (Nat.le_of_ble_eq_true rfl) rfl rfl ⟨sbu (plainL_append (ics_plain _) (zrow_plain rfl _)) rfl, trivial⟩ (bdH_c (by decide) (plainL_append (ics_plain _) (zrow_plain rfl _)) rfl) rfl (.inl (by simp))

theorem p113nil : FC 113 [.slice none 0 0] 0 [] (OutI 0) := by
  refine fc_of [] 0 Try.func113 rfl Try.ntmps113 (by kernel_rfl) (by simp) rfl rfl (hall_of rfl) ?_
  refine vc_seq ?_
  refine vc_go (by kernel_rfl) fun K hK => hK _ _ _ ?_
  clear hK K
  refine vc_seq ?_
  refine vc_reg (by kernel_rfl) fun K hK => ?_
  refine run_n (z := false) 6 (fun K' hK' => hK' _ _ _ ?_) (by decide)
  clear hK' K'
  refine run_sp (sp_append_none (z := [i0]) rfl rfl rfl el3 rfl (Nat.le_refl 0) .nil) rfl rfl rfl ⟨_, _, rfl, rfl⟩ ?_
  rintro _ _ ⟨rfl, rfl⟩
  refine run_end (z := false) fun K' hK' => hK' _ _ _ (hK _ _ _ ?_)
  clear hK' K' hK K
  refine vc_ret ⟨.inr rfl, ?_⟩
  exact res_of 0 _ _ ⟨[], 0, [], by decide, rfl, rfl, rfl⟩ (Nat.le_of_ble_eq_true rfl) rfl rfl ⟨sbu rfl rfl, trivial⟩ rfl rfl (.inl (by simp))
end Go.Proofs.Ytdfkcijholopoaa.Vm
namespace Go.Proofs.Ytdfkcijholopoaa.Vm
open Go Go.RowKit
set_option maxRecDepth 10000
set_option linter.unusedSimpArgs false
set_option linter.unusedVariables false


/-- No list, or one in a block of its own. -/
def OutN (n : Nat) : Value → List (Nat × Blk) → Prop := fun v u => (v = .slice none 0 0 ∧ u = []) ∨ ∃ (Q : List Int) (c2 : Nat) (sp : List Value), Q.length ≤ 17 ∧ plainL sp = true ∧ v = .slice (some ⟨n, 0, none⟩) Q.length c2 ∧ u = [(n, .cells (rws ic Q ++ sp) 3 true)]
def opV (v : Value) : Value := .agg #[.int .i64 0, .int .i64 0, .int .i64 0, .int .u64 0, .int .u64 0, .int .u64 0, .int .u64 0, v, .bool true, .int .i64 0, .int .u64 0, .int .i64 0]


theorem p69 {ids : List Int} {l : List Rn} {mc c : Nat} (hl : l.length ≤ 17) (hc : ids.length ≤ mc) : FC 69 [opV (.slice (some ⟨0, 0, none⟩) ids.length mc), qv 1 l.length c] 2 [(0, .cells (rws ic ids) 0 false), (1, .cells (rws rc l) 0 false)] (OutN 2) := by
  refine fc_of [(0, .cells (rws ic ids) 0 false), (1, .cells (rws rc l) 0 false)] 2 Try.func69 rfl Try.ntmps69 (by kernel_rfl) (by simp) rfl (bdH_c (by decide) (ics_plain ids) (bdH_c (by decide) (rcs_plain l) rfl)) (hall_of rfl) ?_
  refine vc_seq ?_
  refine vc_go (by kernel_rfl) fun K hK => hK _ _ _ ?_
  clear hK K
  refine vc_seq ?_
  refine vc_reg (by kernel_rfl) fun K hK => ?_
  refine run_n (z := false) 2 (fun K' hK' => hK' _ _ _ ?_) (by decide)
  clear hK' K'
  refine run_fc (fun k => (k, 0)) (p113 hc) (hasF ⟨sf_winp (ics_plain ids) rfl get_zero, trivial⟩ rfl) rfl rfl rfl rfl ⟨_, _, [], 0, [], by decide, rfl, rfl, rfl⟩ ?_
  rintro _ _ ⟨L, c2, sp2, hL, hp2, rfl, rfl⟩
  rw [renU_c (renB_p (plainL_append (ics_plain _) hp2)) renU_nil]
  refine run_end (z := false) fun K' hK' => hK' _ _ _ (hK _ _ _ ?_)
  clear hK' K' hK K
  refine vc_seq ?_
  refine vc_seq ?_
  refine vc_go (by kernel_rfl) fun K hK => hK _ _ _ ?_
  clear hK K
  refine vc_cond (t := false) rfl (fun h => by cases h) (fun _ => ?_)
  refine vc_skip ?_
  refine vc_seq ?_
  refine vc_go (by kernel_rfl) fun K hK => hK _ _ _ ?_
  clear hK K
  refine vc_seq ?_
  refine vc_seq ?_
  refine vc_go (by kernel_rfl) fun K hK => hK _ _ _ ?_
  clear hK K
  refine vc_block ?_
  refine vc_loopF (fun n s => ∃ (j : Nat), n = l.length - j ∧ j ≤ l.length ∧ (s = can [(5, .slice (some ⟨2, 0, none⟩) L.length c2), (6, .slice none 0 0), (19, .slice (some ⟨1, 0, none⟩) l.length c), (20, .int .i64 (l.length : Int)), (21, .int .i64 ((j : Nat) : Int))] [(1, .cells (rws rc l) 0 false), (2, .cells (rws ic L ++ sp2) 3 true)] 4 ∨ (∃ (Q : List Int) (k cap : Nat) (sp : List Value), Q.length = k ∧ k ≤ j ∧ k ≤ cap ∧ plainL sp = true ∧ sp.length = cap - k ∧ s = can [(5, .slice (some ⟨2, 0, none⟩) L.length c2), (6, .slice (some ⟨3, 0, none⟩) k cap), (19, .slice (some ⟨1, 0, none⟩) l.length c), (20, .int .i64 (l.length : Int)), (21, .int .i64 ((j : Nat) : Int))] [(1, .cells (rws rc l) 0 false), (2, .cells (rws ic L ++ sp2) 3 true), (3, .cells (rws ic Q ++ sp) 3 true)] 4))) l.length ?_ ?_
  · exact ⟨_, fg_ren (fun k => if k = 2 then 6 else k) [(5, .slice (some ⟨2, 0, none⟩) L.length c2), (6, .slice none 0 0), (19, .slice (some ⟨1, 0, none⟩) l.length c), (20, .int .i64 (l.length : Int)), (21, .int .i64 ((0 : Nat) : Int))] [(1, .cells (rws rc l) 0 false), (2, .cells (rws ic L ++ sp2) 3 true)] 4 (by decide) (fun m hm => if_neg (by omega)) ⟨rfl, rfl, rfl, rfl, rfl, trivial⟩ ⟨sf_winp (rcs_plain l) rfl get_zero, sf_ownp (plainL_append (ics_plain _) hp2) rfl rfl, trivial⟩ rfl (bdH_c (by decide) (rcs_plain l) (bdH_c (by decide) (plainL_append (ics_plain _) hp2) rfl)) rfl, 0, rfl, Nat.zero_le _, .inl rfl⟩
  · rintro n s ⟨j, hn, hj, rfl | ⟨Q, k, cap, sp, hQ, hkj, hkc, hsp, hspl, rfl⟩⟩
    · skip
      refine vc_seq ?_
      refine vc_go (by kernel_rfl) fun K hK => hK _ _ _ ?_
      clear hK K
      refine vc_seq ?_
      refine vc_cond rfl (fun c0 => ?_) (fun c0 => ?_)
      · -- cond 1 t22 true
        refine vc_skip ?_
        refine vc_seq ?_
        refine vc_block ?_
        refine vc_seq ?_
        have hlt := len_le c0
        obtain ⟨r, hr⟩ : ∃ r, l[j]? = some r := ⟨l[j], List.getElem?_eq_getElem hlt⟩
        refine vc_reg (by kernel_rfl) fun K hK => ?_
        refine run_op (vex_ixs (j := j) rfl rfl rfl hlt rfl rfl) rfl ?_
        refine run_rd (vex_ldr rc_len (j := 0) (i := j) (d := rc r) rfl (Nat.zero_add _) rfl (rws_win rc l) rfl hr (by decide) rfl) rfl ?_
        refine run_end (z := false) fun K' hK' => hK' _ _ _ (hK _ _ _ ?_)
        clear hK' K' hK K
        refine vc_seq ?_
        refine vc_go (by kernel_rfl) fun K hK => hK _ _ _ ?_
        clear hK K
        refine vc_block ?_
        refine vc_loopF (fun n s => ∃ (i : Nat), n = L.length - i ∧ i ≤ L.length ∧ s = can [(5, .slice (some ⟨2, 0, none⟩) L.length c2), (6, .slice none 0 0), (19, .slice (some ⟨1, 0, none⟩) l.length c), (20, .int .i64 (l.length : Int)), (21, .int .i64 ((j : Nat) : Int)), (8, .pointer (some ⟨4, 0, none⟩)), (25, .slice (some ⟨2, 0, none⟩) L.length c2), (26, .int .i64 (L.length : Int)), (27, .int .i64 ((i : Nat) : Int))] [(1, .cells (rws rc l) 0 false), (2, .cells (rws ic L ++ sp2) 3 true), (4, .cells (rc r) 67 true)] 5) L.length ?_ ?_
        · exact ⟨_, fg_ren (fun k => if k = 4 then 6 else k) [(5, .slice (some ⟨2, 0, none⟩) L.length c2), (6, .slice none 0 0), (19, .slice (some ⟨1, 0, none⟩) l.length c), (20, .int .i64 (l.length : Int)), (21, .int .i64 ((j : Nat) : Int)), (8, .pointer (some ⟨4, 0, none⟩)), (25, .slice (some ⟨2, 0, none⟩) L.length c2), (26, .int .i64 (L.length : Int)), (27, .int .i64 ((0 : Nat) : Int))] [(1, .cells (rws rc l) 0 false), (2, .cells (rws ic L ++ sp2) 3 true), (4, .cells (rc r) 67 true)] 5 (by decide) (fun m hm => if_neg (by omega)) ⟨rfl, rfl, rfl, rfl, rfl, rfl, rfl, rfl, rfl, trivial⟩ ⟨sf_winp (rcs_plain l) rfl get_zero, sf_ownp (plainL_append (ics_plain _) hp2) rfl rfl, sf_ownp (rc_plain r) rfl rfl, trivial⟩ rfl (bdH_c (by decide) (rcs_plain l) (bdH_c (by decide) (plainL_append (ics_plain _) hp2) (bdH_c (by decide) (rc_plain r) rfl))) rfl, 0, rfl, Nat.zero_le _, rfl⟩
        · rintro n s ⟨i, hn2, hi, rfl⟩
          refine vc_seq ?_
          refine vc_go (by kernel_rfl) fun K hK => hK _ _ _ ?_
          clear hK K
          refine vc_seq ?_
          refine vc_cond rfl (fun c1 => ?_) (fun c1 => ?_)
          · -- cond 2 t28 true
            refine vc_skip ?_
            refine vc_seq ?_
            refine vc_block ?_
            refine vc_seq ?_
            have hlt2 := len_le c1
            obtain ⟨x, hx⟩ : ∃ x, L[i]? = some x := ⟨L[i], List.getElem?_eq_getElem hlt2⟩
            refine vc_reg (by kernel_rfl) fun K hK => ?_
            refine run_op (vex_ixs (j := i) rfl rfl rfl hlt2 rfl rfl) rfl ?_
            refine run_rd (vex_ldc ic_len (j := 0) (i := i) rfl (Nat.zero_add _) rfl rfl rfl hx (by decide) rfl) rfl ?_
            refine run_end (z := false) fun K' hK' => hK' _ _ _ (hK _ _ _ ?_)
            clear hK' K' hK K
            refine vc_seq ?_
            refine vc_go (by kernel_rfl) fun K hK => hK _ _ _ ?_
            clear hK K
            refine vc_cond rfl (fun found => ?_) (fun found => ?_)
            · -- cond 3 t34 true
              refine vc_seq ?_
              skip
              · skip
                refine vc_reg (by kernel_rfl) fun K hK => ?_
                refine run_n (z := false) 3 (fun K' hK' => hK' _ _ _ ?_) (by decide)
                clear hK' K'
                refine run_sp (sp_append_new (z := [i0]) rfl rfl rfl el3 .nil (.cells (own := true) (t := 3) (l := [Value.int .i64 x]) rfl rfl get_zero) rfl (by decide) (by decide)) rfl rfl rfl ⟨_, _, _, Nat.le_refl _, rfl, rfl⟩ ?_
                rintro _ _ ⟨cap2, hcap2, rfl, rfl⟩
                refine run_end (z := false) fun K' hK' => hK' _ _ _ (hK _ _ _ ?_)
                clear hK' K' hK K
                refine vc_exit ?_
                refine vc_go (by kernel_rfl) fun K hK => hK _ _ _ ?_
                clear hK K
                exact ⟨_, fg_ren (fun k => if k = 3 then 8 else k) [(5, .slice (some ⟨2, 0, none⟩) L.length c2), (6, .slice (some ⟨3, 0, none⟩) 1 cap2), (19, .slice (some ⟨1, 0, none⟩) l.length c), (20, .int .i64 (l.length : Int)), (21, .int .i64 ((j + 1 : Nat) : Int))] [(1, .cells (rws rc l) 0 false), (2, .cells (rws ic L ++ sp2) 3 true), (3, .cells (rws ic [x] ++ (zrow (cap2 - 1) [i0])) 3 true)] 4 (by decide) (fun m hm => if_neg (by omega)) ⟨rfl, rfl, rfl, rfl, ii (wrapI (by omega) (by omega)), trivial⟩ ⟨sf_winp (rcs_plain l) rfl get_zero, sf_ownp (plainL_append (ics_plain _) hp2) rfl rfl, sf_eq (plainL_append (ics_plain _) (zrow_plain rfl _)) rfl rfl rfl, trivial⟩ rfl (bdH_c (by decide) (rcs_plain l) (bdH_c (by decide) (plainL_append (ics_plain _) hp2) (bdH_c (by decide) (plainL_append (ics_plain _) (zrow_plain rfl _)) rfl))) rfl, l.length - (j + 1), by omega, j + 1, rfl, hlt, .inr ⟨[x], 1, cap2, (zrow (cap2 - 1) [i0]), rfl, by omega, hcap2, zrow_plain rfl _, by rw [zrow_len]; simp, rfl⟩⟩
            · -- cond 3 t34 false
              refine vc_skip ?_
              refine vc_go (by kernel_rfl) fun K hK => hK _ _ _ ?_
              clear hK K
              exact ⟨_, fg_focus [(5, .slice (some ⟨2, 0, none⟩) L.length c2), (6, .slice none 0 0), (19, .slice (some ⟨1, 0, none⟩) l.length c), (20, .int .i64 (l.length : Int)), (21, .int .i64 ((j : Nat) : Int)), (8, .pointer (some ⟨4, 0, none⟩)), (25, .slice (some ⟨2, 0, none⟩) L.length c2), (26, .int .i64 (L.length : Int)), (27, .int .i64 ((i + 1 : Nat) : Int))] [(1, .cells (rws rc l) 0 false), (2, .cells (rws ic L ++ sp2) 3 true), (4, .cells (rc r) 67 true)] 5 (by decide) ⟨rfl, rfl, rfl, rfl, rfl, rfl, rfl, rfl, ii (wrapI (by omega) (by omega)), trivial⟩ ⟨sb rfl, sb rfl, sb rfl, trivial⟩ rfl (bdH_c (by decide) (rcs_plain l) (bdH_c (by decide) (plainL_append (ics_plain _) hp2) (bdH_c (by decide) (rc_plain r) rfl))), L.length - (i + 1), by omega, i + 1, rfl, hlt2, rfl⟩
          · -- cond 2 t28 false
            refine vc_exit ?_
            refine vc_go (by kernel_rfl) fun K hK => hK _ _ _ ?_
            clear hK K
            exact ⟨_, fg_focus [(5, .slice (some ⟨2, 0, none⟩) L.length c2), (6, .slice none 0 0), (19, .slice (some ⟨1, 0, none⟩) l.length c), (20, .int .i64 (l.length : Int)), (21, .int .i64 ((j + 1 : Nat) : Int))] [(1, .cells (rws rc l) 0 false), (2, .cells (rws ic L ++ sp2) 3 true)] 4 (by decide) ⟨rfl, rfl, rfl, rfl, ii (wrapI (by omega) (by omega)), trivial⟩ ⟨sb rfl, sb rfl, trivial⟩ rfl (bdH_c (by decide) (rcs_plain l) (bdH_c (by decide) (plainL_append (ics_plain _) hp2) rfl)), l.length - (j + 1), by omega, j + 1, rfl, hlt, .inl rfl⟩
      · -- cond 1 t22 false
        refine vc_exit ?_
        refine vc_seq ?_
        refine vc_go (by kernel_rfl) fun K hK => hK _ _ _ ?_
        clear hK K
        refine vc_ret ⟨.inr rfl, ?_⟩
        exact res_plain (.inl ⟨rfl, rfl⟩) rfl rfl rfl
    · skip
      refine vc_seq ?_
      refine vc_go (by kernel_rfl) fun K hK => hK _ _ _ ?_
      clear hK K
      refine vc_seq ?_
      refine vc_cond rfl (fun c0 => ?_) (fun c0 => ?_)
      · -- cond 1 t22 true
        refine vc_skip ?_
        refine vc_seq ?_
        refine vc_block ?_
        refine vc_seq ?_
        have hlt := len_le c0
        obtain ⟨r, hr⟩ : ∃ r, l[j]? = some r := ⟨l[j], List.getElem?_eq_getElem hlt⟩
        refine vc_reg (by kernel_rfl) fun K hK => ?_
        refine run_op (vex_ixs (j := j) rfl rfl rfl hlt rfl rfl) rfl ?_
        refine run_rd (vex_ldr rc_len (j := 0) (i := j) (d := rc r) rfl (Nat.zero_add _) rfl (rws_win rc l) rfl hr (by decide) rfl) rfl ?_
        refine run_end (z := false) fun K' hK' => hK' _ _ _ (hK _ _ _ ?_)
        clear hK' K' hK K
        refine vc_seq ?_
        refine vc_go (by kernel_rfl) fun K hK => hK _ _ _ ?_
        clear hK K
        refine vc_block ?_
        refine vc_loopF (fun n s => ∃ (i : Nat), n = L.length - i ∧ i ≤ L.length ∧ s = can [(5, .slice (some ⟨2, 0, none⟩) L.length c2), (6, .slice (some ⟨3, 0, none⟩) k cap), (19, .slice (some ⟨1, 0, none⟩) l.length c), (20, .int .i64 (l.length : Int)), (21, .int .i64 ((j : Nat) : Int)), (8, .pointer (some ⟨4, 0, none⟩)), (25, .slice (some ⟨2, 0, none⟩) L.length c2), (26, .int .i64 (L.length : Int)), (27, .int .i64 ((i : Nat) : Int))] [(1, .cells (rws rc l) 0 false), (2, .cells (rws ic L ++ sp2) 3 true), (3, .cells (rws ic Q ++ sp) 3 true), (4, .cells (rc r) 67 true)] 5) L.length ?_ ?_
        · exact ⟨_, fg_ren (fun k => if k = 4 then 6 else k) [(5, .slice (some ⟨2, 0, none⟩) L.length c2), (6, .slice (some ⟨3, 0, none⟩) k cap), (19, .slice (some ⟨1, 0, none⟩) l.length c), (20, .int .i64 (l.length : Int)), (21, .int .i64 ((j : Nat) : Int)), (8, .pointer (some ⟨4, 0, none⟩)), (25, .slice (some ⟨2, 0, none⟩) L.length c2), (26, .int .i64 (L.length : Int)), (27, .int .i64 ((0 : Nat) : Int))] [(1, .cells (rws rc l) 0 false), (2, .cells (rws ic L ++ sp2) 3 true), (3, .cells (rws ic Q ++ sp) 3 true), (4, .cells (rc r) 67 true)] 5 (by decide) (fun m hm => if_neg (by omega)) ⟨rfl, rfl, rfl, rfl, rfl, rfl, rfl, rfl, rfl, trivial⟩ ⟨sf_winp (rcs_plain l) rfl get_zero, sf_ownp (plainL_append (ics_plain _) hp2) rfl rfl, sf_ownp (plainL_append (ics_plain _) hsp) rfl rfl, sf_ownp (rc_plain r) rfl rfl, trivial⟩ rfl (bdH_c (by decide) (rcs_plain l) (bdH_c (by decide) (plainL_append (ics_plain _) hp2) (bdH_c (by decide) (plainL_append (ics_plain _) hsp) (bdH_c (by decide) (rc_plain r) rfl)))) rfl, 0, rfl, Nat.zero_le _, rfl⟩
        · rintro n s ⟨i, hn2, hi, rfl⟩
          refine vc_seq ?_
          refine vc_go (by kernel_rfl) fun K hK => hK _ _ _ ?_
          clear hK K
          refine vc_seq ?_
          refine vc_cond rfl (fun c1 => ?_) (fun c1 => ?_)
          · -- cond 2 t28 true
            refine vc_skip ?_
            refine vc_seq ?_
            refine vc_block ?_
            refine vc_seq ?_
            have hlt2 := len_le c1
            obtain ⟨x, hx⟩ : ∃ x, L[i]? = some x := ⟨L[i], List.getElem?_eq_getElem hlt2⟩
            refine vc_reg (by kernel_rfl) fun K hK => ?_
            refine run_op (vex_ixs (j := i) rfl rfl rfl hlt2 rfl rfl) rfl ?_
            refine run_rd (vex_ldc ic_len (j := 0) (i := i) rfl (Nat.zero_add _) rfl rfl rfl hx (by decide) rfl) rfl ?_
            refine run_end (z := false) fun K' hK' => hK' _ _ _ (hK _ _ _ ?_)
            clear hK' K' hK K
            refine vc_seq ?_
            refine vc_go (by kernel_rfl) fun K hK => hK _ _ _ ?_
            clear hK K
            refine vc_cond rfl (fun found => ?_) (fun found => ?_)
            · -- cond 3 t34 true
              refine vc_seq ?_
              rcases Nat.lt_or_ge cap (k + 1) with hroom | hroom
              rotate_left
              · skip
                refine vc_reg (by kernel_rfl) fun K hK => ?_
                refine run_n (z := false) 3 (fun K' hK' => hK' _ _ _ ?_) (by decide)
                clear hK' K'
                refine run_sp (sp_append_room (z := [i0]) rfl rfl rfl el3 rfl rfl (.cells (own := true) (t := 3) (l := [Value.int .i64 x]) rfl rfl get_zero) rfl hroom (by rw [List.length_append, rws_len ic_len, hQ, hspl]; show 0 + k * 1 + 1 ≤ _; omega)) rfl rfl rfl ⟨_, _, rfl, rfl⟩ ?_
                rintro _ _ ⟨rfl, rfl⟩
                refine run_end (z := false) fun K' hK' => hK' _ _ _ (hK _ _ _ ?_)
                clear hK' K' hK K
                refine vc_exit ?_
                refine vc_go (by kernel_rfl) fun K hK => hK _ _ _ ?_
                clear hK K
                exact ⟨_, fg_focus [(5, .slice (some ⟨2, 0, none⟩) L.length c2), (6, .slice (some ⟨3, 0, none⟩) (k + 1) cap), (19, .slice (some ⟨1, 0, none⟩) l.length c), (20, .int .i64 (l.length : Int)), (21, .int .i64 ((j + 1 : Nat) : Int))] [(1, .cells (rws rc l) 0 false), (2, .cells (rws ic L ++ sp2) 3 true), (3, .cells (rws ic (Q ++ [x]) ++ (sp.drop 1)) 3 true)] 4 (by decide) ⟨rfl, rfl, rfl, rfl, ii (wrapI (by omega) (by omega)), trivial⟩ ⟨sb rfl, sb rfl, sbe rfl (ics_room hQ), trivial⟩ rfl (bdH_c (by decide) (rcs_plain l) (bdH_c (by decide) (plainL_append (ics_plain _) hp2) (bdH_c (by decide) (plainL_append (ics_plain _) (plainL_drop hsp 1)) rfl))), l.length - (j + 1), by omega, j + 1, rfl, hlt, .inr ⟨Q ++ [x], k + 1, cap, sp.drop 1, by simp [hQ], by omega, hroom, plainL_drop hsp 1, by rw [List.length_drop, hspl]; omega, rfl⟩⟩
              · skip
                refine vc_reg (by kernel_rfl) fun K hK => ?_
                refine run_n (z := false) 3 (fun K' hK' => hK' _ _ _ ?_) (by decide)
                clear hK' K'
                refine run_sp (sp_append_grow (z := [i0]) rfl rfl rfl el3 (.cells (own := true) (t := 3) (l := rws ic Q) rfl (by rw [rws_len ic_len, hQ]; rfl) get_zero_app) (.cells (own := true) (t := 3) (l := [Value.int .i64 x]) rfl rfl get_zero) rfl hroom (by omega)) rfl rfl rfl ⟨_, _, _, Nat.le_refl _, rfl, rfl⟩ ?_
                rintro _ _ ⟨cap2, hcap2, rfl, rfl⟩
                refine run_end (z := false) fun K' hK' => hK' _ _ _ (hK _ _ _ ?_)
                clear hK' K' hK K
                refine vc_exit ?_
                refine vc_go (by kernel_rfl) fun K hK => hK _ _ _ ?_
                clear hK K
                exact ⟨_, fg_ren (fun k => if k = 3 then 8 else k) [(5, .slice (some ⟨2, 0, none⟩) L.length c2), (6, .slice (some ⟨3, 0, none⟩) (k + 1) cap2), (19, .slice (some ⟨1, 0, none⟩) l.length c), (20, .int .i64 (l.length : Int)), (21, .int .i64 ((j + 1 : Nat) : Int))] [(1, .cells (rws rc l) 0 false), (2, .cells (rws ic L ++ sp2) 3 true), (3, .cells (rws ic (Q ++ [x]) ++ (zrow (cap2 - (k + 1)) [i0])) 3 true)] 4 (by decide) (fun m hm => if_neg (by omega)) ⟨rfl, rfl, rfl, rfl, ii (wrapI (by omega) (by omega)), trivial⟩ ⟨sf_winp (rcs_plain l) rfl get_zero, sf_ownp (plainL_append (ics_plain _) hp2) rfl rfl, sf_eq (plainL_append (ics_plain _) (zrow_plain rfl _)) rfl ics_grow rfl, trivial⟩ rfl (bdH_c (by decide) (rcs_plain l) (bdH_c (by decide) (plainL_append (ics_plain _) hp2) (bdH_c (by decide) (plainL_append (ics_plain _) (zrow_plain rfl _)) rfl))) rfl, l.length - (j + 1), by omega, j + 1, rfl, hlt, .inr ⟨Q ++ [x], (k + 1), cap2, (zrow (cap2 - (k + 1)) [i0]), by simp [hQ], by omega, hcap2, zrow_plain rfl _, by rw [zrow_len]; simp, rfl⟩⟩
            · -- cond 3 t34 false
              refine vc_skip ?_
              refine vc_go (by kernel_rfl) fun K hK => hK _ _ _ ?_
              clear hK K
              exact ⟨_, fg_focus [(5, .slice (some ⟨2, 0, none⟩) L.length c2), (6, .slice (some ⟨3, 0, none⟩) k cap), (19, .slice (some ⟨1, 0, none⟩) l.length c), (20, .int .i64 (l.length : Int)), (21, .int .i64 ((j : Nat) : Int)), (8, .pointer (some ⟨4, 0, none⟩)), (25, .slice (some ⟨2, 0, none⟩) L.length c2), (26, .int .i64 (L.length : Int)), (27, .int .i64 ((i + 1 : Nat) : Int))] [(1, .cells (rws rc l) 0 false), (2, .cells (rws ic L ++ sp2) 3 true), (3, .cells (rws ic Q ++ sp) 3 true), (4, .cells (rc r) 67 true)] 5 (by decide) ⟨rfl, rfl, rfl, rfl, rfl, rfl, rfl, rfl, ii (wrapI (by omega) (by omega)), trivial⟩ ⟨sb rfl, sb rfl, sb rfl, sb rfl, trivial⟩ rfl (bdH_c (by decide) (rcs_plain l) (bdH_c (by decide) (plainL_append (ics_plain _) hp2) (bdH_c (by decide) (plainL_append (ics_plain _) hsp) (bdH_c (by decide) (rc_plain r) rfl)))), L.length - (i + 1), by omega, i + 1, rfl, hlt2, rfl⟩
          · -- cond 2 t28 false
            refine vc_exit ?_
            refine vc_go (by kernel_rfl) fun K hK => hK _ _ _ ?_
            clear hK K
            exact ⟨_, fg_focus [(5, .slice (some ⟨2, 0, none⟩) L.length c2), (6, .slice (some ⟨3, 0, none⟩) k cap), (19, .slice (some ⟨1, 0, none⟩) l.length c), (20, .int .i64 (l.length : Int)), (21, .int .i64 ((j + 1 : Nat) : Int))] [(1, .cells (rws rc l) 0 false), (2, .cells (rws ic L ++ sp2) 3 true), (3, .cells (rws ic Q ++ sp) 3 true)] 4 (by decide) ⟨rfl, rfl, rfl, rfl, ii (wrapI (by omega) (by omega)), trivial⟩ ⟨sb rfl, sb rfl, sb rfl, trivial⟩ rfl (bdH_c (by decide) (rcs_plain l) (bdH_c (by decide) (plainL_append (ics_plain _) hp2) (bdH_c (by decide) (plainL_append (ics_plain _) hsp) rfl))), l.length - (j + 1), by omega, j + 1, rfl, hlt, .inr ⟨Q, k, cap, sp, hQ, by omega, hkc, hsp, hspl, rfl⟩⟩
      · -- cond 1 t22 false
        refine vc_exit ?_
        refine vc_seq ?_
        refine vc_go (by kernel_rfl) fun K hK => hK _ _ _ ?_
        clear hK K
        refine vc_ret ⟨.inr rfl, ?_⟩
        subst hQ
        exact res_of 3 _ _ (.inr ⟨Q, cap, sp, by omega, hsp, rfl, rfl⟩) (Nat.le_of_ble_eq_true rfl) rfl rfl ⟨sbu (plainL_append (ics_plain _) hsp) rfl, trivial⟩ (bdH_c (by decide) (plainL_append (ics_plain _) hsp) rfl) rfl (.inl (by simp))


theorem p69nil {l : List Rn} {c : Nat} (hl : l.length ≤ 17) : FC 69 [opV (.slice none 0 0), qv 0 l.length c] 1 [(0, .cells (rws rc l) 0 false)] (OutN 1) := by
  refine fc_of [(0, .cells (rws rc l) 0 false)] 1 Try.func69 rfl Try.ntmps69 (by kernel_rfl) (by simp) rfl (bdH_c (by decide) (rcs_plain l) rfl) (hall_of rfl) ?_
  refine vc_seq ?_
  refine vc_go (by kernel_rfl) fun K hK => hK _ _ _ ?_
  clear hK K
  refine vc_seq ?_
  refine vc_reg (by kernel_rfl) fun K hK => ?_
  refine run_n (z := false) 2 (fun K' hK' => hK' _ _ _ ?_) (by decide)
  clear hK' K'
  refine run_fc (fun k => (k, 0)) p113nil (hasF trivial rfl) rfl rfl rfl rfl ⟨_, _, [], 0, [], by decide, rfl, rfl, rfl⟩ ?_
  rintro _ _ ⟨L, c2, sp2, hL, hp2, rfl, rfl⟩
  rw [renU_c (renB_p (plainL_append (ics_plain _) hp2)) renU_nil]
  refine run_end (z := false) fun K' hK' => hK' _ _ _ (hK _ _ _ ?_)
  clear hK' K' hK K
  refine vc_seq ?_
  refine vc_seq ?_
  refine vc_go (by kernel_rfl) fun K hK => hK _ _ _ ?_
  clear hK K
  refine vc_cond (t := false) rfl (fun h => by cases h) (fun _ => ?_)
  refine vc_skip ?_
  refine vc_seq ?_
  refine vc_go (by kernel_rfl) fun K hK => hK _ _ _ ?_
  clear hK K
  refine vc_seq ?_
  refine vc_seq ?_
  refine vc_go (by kernel_rfl) fun K hK => hK _ _ _ ?_
  clear hK K
  refine vc_block ?_
  refine vc_loopF (fun n s => ∃ (j : Nat), n = l.length - j ∧ j ≤ l.length ∧ (s = can [(5, .slice (some ⟨1, 0, none⟩) L.length c2), (6, .slice none 0 0), (19, .slice (some ⟨0, 0, none⟩) l.length c), (20, .int .i64 (l.length : Int)), (21, .int .i64 ((j : Nat) : Int))] [(0, .cells (rws rc l) 0 false), (1, .cells (rws ic L ++ sp2) 3 true)] 3 ∨ (∃ (Q : List Int) (k cap : Nat) (sp : List Value), Q.length = k ∧ k ≤ j ∧ k ≤ cap ∧ plainL sp = true ∧ sp.length = cap - k ∧ s = can [(5, .slice (some ⟨1, 0, none⟩) L.length c2), (6, .slice (some ⟨2, 0, none⟩) k cap), (19, .slice (some ⟨0, 0, none⟩) l.length c), (20, .int .i64 (l.length : Int)), (21, .int .i64 ((j : Nat) : Int))] [(0, .cells (rws rc l) 0 false), (1, .cells (rws ic L ++ sp2) 3 true), (2, .cells (rws ic Q ++ sp) 3 true)] 3))) l.length ?_ ?_
  · exact ⟨_, fg_ren (fun k => if k = 1 then 5 else k) [(5, .slice (some ⟨1, 0, none⟩) L.length c2), (6, .slice none 0 0), (19, .slice (some ⟨0, 0, none⟩) l.length c), (20, .int .i64 (l.length : Int)), (21, .int .i64 ((0 : Nat) : Int))] [(0, .cells (rws rc l) 0 false), (1, .cells (rws ic L ++ sp2) 3 true)] 3 (by decide) (fun m hm => if_neg (by omega)) ⟨rfl, rfl, rfl, rfl, rfl, trivial⟩ ⟨sf_winp (rcs_plain l) rfl get_zero, sf_ownp (plainL_append (ics_plain _) hp2) rfl rfl, trivial⟩ rfl (bdH_c (by decide) (rcs_plain l) (bdH_c (by decide) (plainL_append (ics_plain _) hp2) rfl)) rfl, 0, rfl, Nat.zero_le _, .inl rfl⟩
  · rintro n s ⟨j, hn, hj, rfl | ⟨Q, k, cap, sp, hQ, hkj, hkc, hsp, hspl, rfl⟩⟩
    · skip
      refine vc_seq ?_
      refine vc_go (by kernel_rfl) fun K hK => hK _ _ _ ?_
      clear hK K
      refine vc_seq ?_
      refine vc_cond rfl (fun c0 => ?_) (fun c0 => ?_)
      · -- cond 1 t22 true
        refine vc_skip ?_
        refine vc_seq ?_
        refine vc_block ?_
        refine vc_seq ?_
        have hlt := len_le c0
        obtain ⟨r, hr⟩ : ∃ r, l[j]? = some r := ⟨l[j], List.getElem?_eq_getElem hlt⟩
        refine vc_reg (by kernel_rfl) fun K hK => ?_
        refine run_op (vex_ixs (j := j) rfl rfl rfl hlt rfl rfl) rfl ?_
        refine run_rd (vex_ldr rc_len (j := 0) (i := j) (d := rc r) rfl (Nat.zero_add _) rfl (rws_win rc l) rfl hr (by decide) rfl) rfl ?_
        refine run_end (z := false) fun K' hK' => hK' _ _ _ (hK _ _ _ ?_)
        clear hK' K' hK K
        refine vc_seq ?_
        refine vc_go (by kernel_rfl) fun K hK => hK _ _ _ ?_
        clear hK K
        refine vc_block ?_
        refine vc_loopF (fun n s => ∃ (i : Nat), n = L.length - i ∧ i ≤ L.length ∧ s = can [(5, .slice (some ⟨1, 0, none⟩) L.length c2), (6, .slice none 0 0), (19, .slice (some ⟨0, 0, none⟩) l.length c), (20, .int .i64 (l.length : Int)), (21, .int .i64 ((j : Nat) : Int)), (8, .pointer (some ⟨3, 0, none⟩)), (25, .slice (some ⟨1, 0, none⟩) L.length c2), (26, .int .i64 (L.length : Int)), (27, .int .i64 ((i : Nat) : Int))] [(0, .cells (rws rc l) 0 false), (1, .cells (rws ic L ++ sp2) 3 true), (3, .cells (rc r) 67 true)] 4) L.length ?_ ?_
        · exact ⟨_, fg_ren (fun k => if k = 3 then 5 else k) [(5, .slice (some ⟨1, 0, none⟩) L.length c2), (6, .slice none 0 0), (19, .slice (some ⟨0, 0, none⟩) l.length c), (20, .int .i64 (l.length : Int)), (21, .int .i64 ((j : Nat) : Int)), (8, .pointer (some ⟨3, 0, none⟩)), (25, .slice (some ⟨1, 0, none⟩) L.length c2), (26, .int .i64 (L.length : Int)), (27, .int .i64 ((0 : Nat) : Int))] [(0, .cells (rws rc l) 0 false), (1, .cells (rws ic L ++ sp2) 3 true), (3, .cells (rc r) 67 true)] 4 (by decide) (fun m hm => if_neg (by omega)) ⟨rfl, rfl, rfl, rfl, rfl, rfl, rfl, rfl, rfl, trivial⟩ ⟨sf_winp (rcs_plain l) rfl get_zero, sf_ownp (plainL_append (ics_plain _) hp2) rfl rfl, sf_ownp (rc_plain r) rfl rfl, trivial⟩ rfl (bdH_c (by decide) (rcs_plain l) (bdH_c (by decide) (plainL_append (ics_plain _) hp2) (bdH_c (by decide) (rc_plain r) rfl))) rfl, 0, rfl, Nat.zero_le _, rfl⟩
        · rintro n s ⟨i, hn2, hi, rfl⟩
          refine vc_seq ?_
          refine vc_go (by kernel_rfl) fun K hK => hK _ _ _ ?_
          clear hK K
          refine vc_seq ?_
          refine vc_cond rfl (fun c1 => ?_) (fun c1 => ?_)
          · -- cond 2 t28 true
            refine vc_skip ?_
            refine vc_seq ?_
            refine vc_block ?_
            refine vc_seq ?_
            have hlt2 := len_le c1
            obtain ⟨x, hx⟩ : ∃ x, L[i]? = some x := ⟨L[i], List.getElem?_eq_getElem hlt2⟩
            refine vc_reg (by kernel_rfl) fun K hK => ?_
            refine run_op (vex_ixs (j := i) rfl rfl rfl hlt2 rfl rfl) rfl ?_
            refine run_rd (vex_ldc ic_len (j := 0) (i := i) rfl (Nat.zero_add _) rfl rfl rfl hx (by decide) rfl) rfl ?_
            refine run_end (z := false) fun K' hK' => hK' _ _ _ (hK _ _ _ ?_)
            clear hK' K' hK K
            refine vc_seq ?_
            refine vc_go (by kernel_rfl) fun K hK => hK _ _ _ ?_
            clear hK K
            refine vc_cond rfl (fun found => ?_) (fun found => ?_)
            · -- cond 3 t34 true
              refine vc_seq ?_
              skip
              · skip
                refine vc_reg (by kernel_rfl) fun K hK => ?_
                refine run_n (z := false) 3 (fun K' hK' => hK' _ _ _ ?_) (by decide)
                clear hK' K'
                refine run_sp (sp_append_new (z := [i0]) rfl rfl rfl el3 .nil (.cells (own := true) (t := 3) (l := [Value.int .i64 x]) rfl rfl get_zero) rfl (by decide) (by decide)) rfl rfl rfl ⟨_, _, _, Nat.le_refl _, rfl, rfl⟩ ?_
                rintro _ _ ⟨cap2, hcap2, rfl, rfl⟩
                refine run_end (z := false) fun K' hK' => hK' _ _ _ (hK _ _ _ ?_)
                clear hK' K' hK K
                refine vc_exit ?_
                refine vc_go (by kernel_rfl) fun K hK => hK _ _ _ ?_
                clear hK K
                exact ⟨_, fg_ren (fun k => if k = 2 then 7 else k) [(5, .slice (some ⟨1, 0, none⟩) L.length c2), (6, .slice (some ⟨2, 0, none⟩) 1 cap2), (19, .slice (some ⟨0, 0, none⟩) l.length c), (20, .int .i64 (l.length : Int)), (21, .int .i64 ((j + 1 : Nat) : Int))] [(0, .cells (rws rc l) 0 false), (1, .cells (rws ic L ++ sp2) 3 true), (2, .cells (rws ic [x] ++ (zrow (cap2 - 1) [i0])) 3 true)] 3 (by decide) (fun m hm => if_neg (by omega)) ⟨rfl, rfl, rfl, rfl, ii (wrapI (by omega) (by omega)), trivial⟩ ⟨sf_winp (rcs_plain l) rfl get_zero, sf_ownp (plainL_append (ics_plain _) hp2) rfl rfl, sf_eq (plainL_append (ics_plain _) (zrow_plain rfl _)) rfl rfl rfl, trivial⟩ rfl (bdH_c (by decide) (rcs_plain l) (bdH_c (by decide) (plainL_append (ics_plain _) hp2) (bdH_c (by decide) (plainL_append (ics_plain _) (zrow_plain rfl _)) rfl))) rfl, l.length - (j + 1), by omega, j + 1, rfl, hlt, .inr ⟨[x], 1, cap2, (zrow (cap2 - 1) [i0]), rfl, by omega, hcap2, zrow_plain rfl _, by rw [zrow_len]; simp, rfl⟩⟩
            · -- cond 3 t34 false
              refine vc_skip ?_
              refine vc_go (by kernel_rfl) fun K hK => hK _ _ _ ?_
              clear hK K
              exact ⟨_, fg_focus [(5, .slice (some ⟨1, 0, none⟩) L.length c2), (6, .slice none 0 0), (19, .slice (some ⟨0, 0, none⟩) l.length c), (20, .int .i64 (l.length : Int)), (21, .int .i64 ((j : Nat) : Int)), (8, .pointer (some ⟨3, 0, none⟩)), (25, .slice (some ⟨1, 0, none⟩) L.length c2), (26, .int .i64 (L.length : Int)), (27, .int .i64 ((i + 1 : Nat) : Int))] [(0, .cells (rws rc l) 0 false), (1, .cells (rws ic L ++ sp2) 3 true), (3, .cells (rc r) 67 true)] 4 (by decide) ⟨rfl, rfl, rfl, rfl, rfl, rfl, rfl, rfl, ii (wrapI (by omega) (by omega)), trivial⟩ ⟨sb rfl, sb rfl, sb rfl, trivial⟩ rfl (bdH_c (by decide) (rcs_plain l) (bdH_c (by decide) (plainL_append (ics_plain _) hp2) (bdH_c (by decide) (rc_plain r) rfl))), L.length - (i + 1), by omega, i + 1, rfl, hlt2, rfl⟩
          · -- cond 2 t28 false
            refine vc_exit ?_
            refine vc_go (by kernel_rfl) fun K hK => hK _ _ _ ?_
            clear hK K
            exact ⟨_, fg_focus [(5, .slice (some ⟨1, 0, none⟩) L.length c2), (6, .slice none 0 0), (19, .slice (some ⟨0, 0, none⟩) l.length c), (20, .int .i64 (l.length : Int)), (21, .int .i64 ((j + 1 : Nat) : Int))] [(0, .cells (rws rc l) 0 false), (1, .cells (rws ic L ++ sp2) 3 true)] 3 (by decide) ⟨rfl, rfl, rfl, rfl, ii (wrapI (by omega) (by omega)), trivial⟩ ⟨sb rfl, sb rfl, trivial⟩ rfl (bdH_c (by decide) (rcs_plain l) (bdH_c (by decide) (plainL_append (ics_plain _) hp2) rfl)), l.length - (j + 1), by omega, j + 1, rfl, hlt, .inl rfl⟩
      · -- cond 1 t22 false
        refine vc_exit ?_
        refine vc_seq ?_
        refine vc_go (by kernel_rfl) fun K hK => hK _ _ _ ?_
        clear hK K
        refine vc_ret ⟨.inr rfl, ?_⟩
        exact res_plain (.inl ⟨rfl, rfl⟩) rfl rfl rfl
    · skip
      refine vc_seq ?_
      refine vc_go (by kernel_rfl) fun K hK => hK _ _ _ ?_
      clear hK K
      refine vc_seq ?_
      refine vc_cond rfl (fun c0 => ?_) (fun c0 => ?_)
      · -- cond 1 t22 true
        refine vc_skip ?_
        refine vc_seq ?_
        refine vc_block ?_
        refine vc_seq ?_
        have hlt := len_le c0
        obtain ⟨r, hr⟩ : ∃ r, l[j]? = some r := ⟨l[j], List.getElem?_eq_getElem hlt⟩
        refine vc_reg (by kernel_rfl) fun K hK => ?_
        refine run_op (vex_ixs (j := j) rfl rfl rfl hlt rfl rfl) rfl ?_
        refine run_rd (vex_ldr rc_len (j := 0) (i := j) (d := rc r) rfl (Nat.zero_add _) rfl (rws_win rc l) rfl hr (by decide) rfl) rfl ?_
        refine run_end (z := false) fun K' hK' => hK' _ _ _ (hK _ _ _ ?_)
        clear hK' K' hK K
        refine vc_seq ?_
        refine vc_go (by kernel_rfl) fun K hK => hK _ _ _ ?_
        clear hK K
        refine vc_block ?_
        refine vc_loopF (fun n s => ∃ (i : Nat), n = L.length - i ∧ i ≤ L.length ∧ s = can [(5, .slice (some ⟨1, 0, none⟩) L.length c2), (6, .slice (some ⟨2, 0, none⟩) k cap), (19, .slice (some ⟨0, 0, none⟩) l.length c), (20, .int .i64 (l.length : Int)), (21, .int .i64 ((j : Nat) : Int)), (8, .pointer (some ⟨3, 0, none⟩)), (25, .slice (some ⟨1, 0, none⟩) L.length c2), (26, .int .i64 (L.length : Int)), (27, .int .i64 ((i : Nat) : Int))] [(0, .cells (rws rc l) 0 false), (1, .cells (rws ic L ++ sp2) 3 true), (2, .cells (rws ic Q ++ sp) 3 true), (3, .cells (rc r) 67 true)] 4) L.length ?_ ?_
        · exact ⟨_, fg_ren (fun k => if k = 3 then 5 else k) [(5, .slice (some ⟨1, 0, none⟩) L.length c2), (6, .slice (some ⟨2, 0, none⟩) k cap), (19, .slice (some ⟨0, 0, none⟩) l.length c), (20, .int .i64 (l.length : Int)), (21, .int .i64 ((j : Nat) : Int)), (8, .pointer (some ⟨3, 0, none⟩)), (25, .slice (some ⟨1, 0, none⟩) L.length c2), (26, .int .i64 (L.length : Int)), (27, .int .i64 ((0 : Nat) : Int))] [(0, .cells (rws rc l) 0 false), (1, .cells (rws ic L ++ sp2) 3 true), (2, .cells (rws ic Q ++ sp) 3 true), (3, .cells (rc r) 67 true)] 4 (by decide) (fun m hm => if_neg (by omega)) ⟨rfl, rfl, rfl, rfl, rfl, rfl, rfl, rfl, rfl, trivial⟩ ⟨sf_winp (rcs_plain l) rfl get_zero, sf_ownp (plainL_append (ics_plain _) hp2) rfl rfl, sf_ownp (plainL_append (ics_plain _) hsp) rfl rfl, sf_ownp (rc_plain r) rfl rfl, trivial⟩ rfl (bdH_c (by decide) (rcs_plain l) (bdH_c (by decide) (plainL_append (ics_plain _) hp2) (bdH_c (by decide) (plainL_append (ics_plain _) hsp) (bdH_c (by decide) (rc_plain r) rfl)))) rfl, 0, rfl, Nat.zero_le _, rfl⟩
        · rintro n s ⟨i, hn2, hi, rfl⟩
          refine vc_seq ?_
          refine vc_go (by kernel_rfl) fun K hK => hK _ _ _ ?_
          clear hK K
          refine vc_seq ?_
          refine vc_cond rfl (fun c1 => ?_) (fun c1 => ?_)
          · -- cond 2 t28 true
            refine vc_skip ?_
            refine vc_seq ?_
            refine vc_block ?_
            refine vc_seq ?_
            have hlt2 := len_le c1
            obtain ⟨x, hx⟩ : ∃ x, L[i]? = some x := ⟨L[i], List.getElem?_eq_getElem hlt2⟩
            refine vc_reg (by kernel_rfl) fun K hK => ?_
            refine run_op (vex_ixs (j := i) rfl rfl rfl hlt2 rfl rfl) rfl ?_
            refine run_rd (vex_ldc ic_len (j := 0) (i := i) rfl (Nat.zero_add _) rfl rfl rfl hx (by decide) rfl) rfl ?_
            refine run_end (z := false) fun K' hK' => hK' _ _ _ (hK _ _ _ ?_)
            clear hK' K' hK K
            refine vc_seq ?_
            refine vc_go (by kernel_rfl) fun K hK => hK _ _ _ ?_
            clear hK K
            refine vc_cond rfl (fun found => ?_) (fun found => ?_)
            · -- cond 3 t34 true
              refine vc_seq ?_
              rcases Nat.lt_or_ge cap (k + 1) with hroom | hroom
              rotate_left
              · skip
                refine vc_reg (by kernel_rfl) fun K hK => ?_
                refine run_n (z := false) 3 (fun K' hK' => hK' _ _ _ ?_) (by decide)
                clear hK' K'
                refine run_sp (sp_append_room (z := [i0]) rfl rfl rfl el3 rfl rfl (.cells (own := true) (t := 3) (l := [Value.int .i64 x]) rfl rfl get_zero) rfl hroom (by rw [List.length_append, rws_len ic_len, hQ, hspl]; show 0 + k * 1 + 1 ≤ _; omega)) rfl rfl rfl ⟨_, _, rfl, rfl⟩ ?_
                rintro _ _ ⟨rfl, rfl⟩
                refine run_end (z := false) fun K' hK' => hK' _ _ _ (hK _ _ _ ?_)
                clear hK' K' hK K
                refine vc_exit ?_
                refine vc_go (by kernel_rfl) fun K hK => hK _ _ _ ?_
                clear hK K
                exact ⟨_, fg_focus [(5, .slice (some ⟨1, 0, none⟩) L.length c2), (6, .slice (some ⟨2, 0, none⟩) (k + 1) cap), (19, .slice (some ⟨0, 0, none⟩) l.length c), (20, .int .i64 (l.length : Int)), (21, .int .i64 ((j + 1 : Nat) : Int))] [(0, .cells (rws rc l) 0 false), (1, .cells (rws ic L ++ sp2) 3 true), (2, .cells (rws ic (Q ++ [x]) ++ (sp.drop 1)) 3 true)] 3 (by decide) ⟨rfl, rfl, rfl, rfl, ii (wrapI (by omega) (by omega)), trivial⟩ ⟨sb rfl, sb rfl, sbe rfl (ics_room hQ), trivial⟩ rfl (bdH_c (by decide) (rcs_plain l) (bdH_c (by decide) (plainL_append (ics_plain _) hp2) (bdH_c (by decide) (plainL_append (ics_plain _) (plainL_drop hsp 1)) rfl))), l.length - (j + 1), by omega, j + 1, rfl, hlt, .inr ⟨Q ++ [x], k + 1, cap, sp.drop 1, by simp [hQ], by omega, hroom, plainL_drop hsp 1, by rw [List.length_drop, hspl]; omega, rfl⟩⟩
              · skip
                refine vc_reg (by kernel_rfl) fun K hK => ?_
                refine run_n (z := false) 3 (fun K' hK' => hK' _ _ _ ?_) (by decide)
                clear hK' K'
                refine run_sp (sp_append_grow (z := [i0]) rfl rfl rfl el3 (.cells (own := true) (t := 3) (l := rws ic Q) rfl (by rw [rws_len ic_len, hQ]; rfl) get_zero_app) (.cells (own := true) (t := 3) (l := [Value.int .i64 x]) rfl rfl get_zero) rfl hroom (by omega)) rfl rfl rfl ⟨_, _, _, Nat.le_refl _, rfl, rfl⟩ ?_
                rintro _ _ ⟨cap2, hcap2, rfl, rfl⟩
                refine run_end (z := false) fun K' hK' => hK' _ _ _ (hK _ _ _ ?_)
                clear hK' K' hK K
                refine vc_exit ?_
                refine vc_go (by kernel_rfl) fun K hK => hK _ _ _ ?_
                clear hK K
                exact ⟨_, fg_ren (fun k => if k = 2 then 7 else k) [(5, .slice (some ⟨1, 0, none⟩) L.length c2), (6, .slice (some ⟨2, 0, none⟩) (k + 1) cap2), (19, .slice (some ⟨0, 0, none⟩) l.length c), (20, .int .i64 (l.length : Int)), (21, .int .i64 ((j + 1 : Nat) : Int))] [(0, .cells (rws rc l) 0 false), (1, .cells (rws ic L ++ sp2) 3 true), (2, .cells (rws ic (Q ++ [x]) ++ (zrow (cap2 - (k + 1)) [i0])) 3 true)] 3 (by decide) (fun m hm => if_neg (by omega)) ⟨rfl, rfl, rfl, rfl, ii (wrapI (by omega) (by omega)), trivial⟩ ⟨sf_winp (rcs_plain l) rfl get_zero, sf_ownp (plainL_append (ics_plain _) hp2) rfl rfl, sf_eq (plainL_append (ics_plain _) (zrow_plain rfl _)) rfl ics_grow rfl, trivial⟩ rfl (bdH_c (by decide) (rcs_plain l) (bdH_c (by decide) (plainL_append (ics_plain _) hp2) (bdH_c (by decide) (plainL_append (ics_plain _) (zrow_plain rfl _)) rfl))) rfl, l.length - (j + 1), by omega, j + 1, rfl, hlt, .inr ⟨Q ++ [x], (k + 1), cap2, (zrow (cap2 - (k + 1)) [i0]), by simp [hQ], by omega, hcap2, zrow_plain rfl _, by rw [zrow_len]; simp, rfl⟩⟩
            · -- cond 3 t34 false
              refine vc_skip ?_
              refine vc_go (by kernel_rfl) fun K hK => hK _ _ _ ?_
              clear hK K
              exact ⟨_, fg_focus [(5, .slice (some ⟨1, 0, none⟩) L.length c2), (6, .slice (some ⟨2, 0, none⟩) k cap), (19, .slice (some ⟨0, 0, none⟩) l.length c), (20, .int .i64 (l.length : Int)), (21, .int .i64 ((j : Nat) : Int)), (8, .pointer (some ⟨3, 0, none⟩)), (25, .slice (some ⟨1, 0, none⟩) L.length c2), (26, .int .i64 (L.length : Int)), (27, .int .i64 ((i + 1 : Nat) : Int))] [(0, .cells (rws rc l) 0 false), (1, .cells (rws ic L ++ sp2) 3 true), (2, .cells (rws ic Q ++ sp) 3 true), (3, .cells (rc r) 67 true)] 4 (by decide) ⟨rfl, rfl, rfl, rfl, rfl, rfl, rfl, rfl, ii (wrapI (by omega) (by omega)), trivial⟩ ⟨sb rfl, sb rfl, sb rfl, sb rfl, trivial⟩ rfl (bdH_c (by decide) (rcs_plain l) (bdH_c (by decide) (plainL_append (ics_plain _) hp2) (bdH_c (by decide) (plainL_append (ics_plain _) hsp) (bdH_c (by decide) (rc_plain r) rfl)))), L.length - (i + 1), by omega, i + 1, rfl, hlt2, rfl⟩
          · -- cond 2 t28 false
            refine vc_exit ?_
            refine vc_go (by kernel_rfl) fun K hK => hK _ _ _ ?_
            clear hK K
            exact ⟨_, fg_focus [(5, .slice (some ⟨1, 0, none⟩) L.length c2), (6, .slice (some ⟨2, 0, none⟩) k cap), (19, .slice (some ⟨0, 0, none⟩) l.length c), (20, .int .i64 (l.length : Int)), (21, .int .i64 ((j + 1 : Nat) : Int))] [(0, .cells (rws rc l) 0 false), (1, .cells (rws ic L ++ sp2) 3 true), (2, .cells (rws ic Q ++ sp) 3 true)] 3 (by decide) ⟨rfl, rfl, rfl, rfl, ii (wrapI (by omega) (by omega)), trivial⟩ ⟨sb rfl, sb rfl, sb rfl, trivial⟩ rfl (bdH_c (by decide) (rcs_plain l) (bdH_c (by decide) (plainL_append (ics_plain _) hp2) (bdH_c (by decide) (plainL_append (ics_plain _) hsp) rfl))), l.length - (j + 1), by omega, j + 1, rfl, hlt, .inr ⟨Q, k, cap, sp, hQ, by omega, hkc, hsp, hspl, rfl⟩⟩
      · -- cond 1 t22 false
        refine vc_exit ?_
        refine vc_seq ?_
        refine vc_go (by kernel_rfl) fun K hK => hK _ _ _ ?_
        clear hK K
        refine vc_ret ⟨.inr rfl, ?_⟩
        subst hQ
        exact res_of 2 _ _ (.inr ⟨Q, cap, sp, by omega, hsp, rfl, rfl⟩) (Nat.le_of_ble_eq_true rfl) rfl rfl ⟨sbu (plainL_append (ics_plain _) hsp) rfl, trivial⟩ (bdH_c (by decide) (plainL_append (ics_plain _) hsp) rfl) rfl (.inl (by simp))

end Go.Proofs.Ytdfkcijholopoaa.Vm
