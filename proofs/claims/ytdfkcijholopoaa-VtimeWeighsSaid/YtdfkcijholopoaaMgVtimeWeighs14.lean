/- What the proofs stand on, in one text: Nb, Nc. -/
import Derived.Test.YtdfkcijholopoaaMg12
namespace Go.Proofs.Ytdfkcijholopoaa.Vm
open Go Go.RowKit
set_option maxRecDepth 10000
set_option linter.unusedSimpArgs false
set_option linter.unusedVariables false


/-- Behind a region: the state laid anew, under new names. -/
theorem renF {B N : Nat} {y : Code} {Q : Exit → St → Prop} {t : Nat → Value} {h : Nat → Option Blk} {n : Nat} (g : Nat → Nat) (lt : List (Nat × Value)) (lh : List (Nat × Blk)) (K : Nat) (hB : B ≤ K) (hg : ∀ m, m < B → g m = m) (ht : HasTR t (fun k => (g k, 0)) lt) (hh : HasFl h (fun k => (g k, 0)) lh) (hb : bdT K lt = true) (hb' : bdH K lh = true)
    (hi : injF (fun k => (g k, 0)) (lh.map fun x => (x.1, x.2.own)) = true) (k : thenV (B := B) N y Q .normal ⟨updT (fun _ => junk) lt, updH (fun _ => none) lh, K⟩) : thenV (B := B) N y Q .normal ⟨t, h, n⟩ :=
  vc_fg (s := ⟨t, h, n⟩) (fg_ren g lt lh K hB hg ht hh hb hb' hi) k
abbrev AR46 (l : List Rn) (r : Rn) (b c : Nat) : List Value := [qv 0 l.length c, rv r, u64 b]
def Out46e (e : Int) : Value → List (Nat × Blk) → Prop := fun v u => v = .tuple #[qnil, .int .i64 e] ∧ u = []
def Out46k (l1 : List Rn) (n : Nat) : Value → List (Nat × Blk) → Prop := fun v u => ∃ c2 sp2, plainL sp2 = true ∧ v = .tuple #[qv 1 n c2, .int .i64 0] ∧ u = [(1, .cells (rws rc l1 ++ sp2) 67 true)]
def Out49k (l1 : List Rn) (n : Nat) (a : Rn) : Value → List (Nat × Blk) → Prop := fun v u => ∃ c2 sp2, n ≤ c2 ∧ plainL sp2 = true ∧ v = .tuple #[qv 1 n c2, rv a, .int .i64 0] ∧ u = [(1, .cells (rws rc l1 ++ sp2) 67 true)]
theorem fr_neq (n w : Nat) : (!((((n/2^64:Nat):Int) == ((n/2^64:Nat):Int)) && (((n%2^64:Nat):Int) == ((n%2^64:Nat):Int)) && ((w:Int) == (w:Int)))) = false := by simp
/-- Join, in three ways. -/
theorem near_cases (l : List Rn) (r : Rn) (b c : Nat) (hl : l.length ≤ 17) (hc : l.length ≤ c) :
    (∃ e, e ≠ 0 ∧ e = joinE l r b ∧ FC 46 [qv 0 l.length c, rv r, u64 b] 1 [(0, .cells (rws rc l) 0 false)] (Out46e e)) ∨
    (joinE l r b = 0 ∧ okq 0 l = true ∧ topS none l = none ∧ FC 46 [qv 0 l.length c, rv r, u64 b] 1 [(0, .cells (rws rc l) 0 false)] (Out46k (joinQ l r b) (l.length + 1))) ∨
    (∃ a v, joinE l r b = 0 ∧ okq 0 l = true ∧ topS none l = some (a, v) ∧ FC 46 [qv 0 l.length c, rv r, u64 b] 1 [(0, .cells (rws rc l) 0 false)] (Out46k (joinQ l r b) (l.length + 1))) := by
  rcases p46 l r b c (by omega) hc with ⟨h1, h2⟩ | ⟨h1, h2, _, _, _, h6⟩
  · exact .inl ⟨_, h1, rfl, h2⟩
  · cases ht : topS none l with
    | none => exact .inr (.inl ⟨h1, h2, rfl, h6⟩)
    | some x => exact .inr (.inr ⟨x.1, x.2, h1, h2, rfl, h6⟩)
theorem leave_ok {l : List Rn} {a : Rn} {k : Nat} (c : Nat) (hl : l.length ≤ 900) (hq : okq 0 l = true) (ha : l[k]? = some a) : FC 49 [qv 0 l.length c, .int .i64 a.id] 1 [(0, .cells (rws rc l) 0 false)] (Out49k (delQ l k) (l.length - 1) a) := by
  obtain ⟨e1, e2, _⟩ := at_of hq ha
  have hid := okR_id ((okq0.1 hq).1 a (List.mem_of_getElem? ha))
  have hE : leaveE l a.id = 0 := by simp [leaveE, hq, e2, inI, hid]
  rcases p49 l a.id c hl with ⟨h, _⟩ | ⟨_, _, _, _, a', ha', h⟩
  · exact absurd hE h
  · rw [e1] at ha' h
    rw [ha] at ha'
    cases ha'
    exact h
theorem same_ro (l : List Rn) (ca cb : Nat) (hl : l.length ≤ 900) : RO 45 [qv 0 l.length ca, qv 1 l.length cb] [(0, rws rc l), (1, rws rc l)] (.bool true) := by
  have h := p45 l l ca cb (by omega)
  rw [decide_eq_true rfl] at h
  exact h

theorem p9 (x : List Rn) (r : Rn) (b c : Nat) (hb64 : b < 2 ^ 64) (hc : x.length ≤ c) : RO 9 [qv 0 x.length c, rv r, u64 b] [(0, rws rc x)] (.bool true) := by
  refine ro_of _ 1 Try.func9 rfl Try.ntmps9 (by kernel_rfl) (by simp) rfl rfl (by simp) (by simp [rcs_plain]) ?_
  refine vc_seq ?_
  refine vc_go (by kernel_rfl) fun K hK => hK _ _ _ ?_
  clear hK K
  refine vc_seq ?_
  refine vc_seq ?_
  refine vc_reg (by kernel_rfl) fun K hK => ?_
  refine run_call (p38) rfl rfl rfl rfl ?_
  refine run_end (z := false) fun K' hK' => hK' _ _ _ (hK _ _ _ ?_)
  clear hK' K' hK K
  refine vc_cond (t := false) rfl (fun h => by cases h) (fun _ => ?_)
  refine vc_skip ?_
  refine vc_seq ?_
  refine vc_reg (by kernel_rfl) fun K hK => ?_
  refine run_n (z := false) 1 (fun K' hK' => hK' _ _ _ ?_) (by decide)
  clear hK' K'
  refine run_fc (fun k => (k, 0)) (p39 hc) (hasF ⟨sf_winp (rcs_plain x) rfl get_zero, trivial⟩ rfl) rfl rfl rfl rfl ⟨_, _, _, Nat.le_refl _, rfl, rfl⟩ ?_
  rintro _ _ ⟨c2, hlc, rfl, rfl⟩
  rw [renU_c (renB_p (spare_plain _ _)) renU_nil]
  have hl : (x.take 17).length ≤ 17 := take17 x
  generalize x.take 17 = l at *
  refine run_end (z := false) fun K' hK' => hK' _ _ _ (hK _ _ _ ?_)
  clear hK' K' hK K
  refine renF (fun k => if k = 0 then 2 else if k = 1 then 5 else 4) [(2, u64 b), (4, .pointer (some ⟨0, 0, none⟩)), (6, .bool false), (7, .pointer (some ⟨1, 0, none⟩))] [(0, .cells (rc r) 67 true), (1, .cells [.slice (some ⟨2, 0, none⟩) l.length c2] 55 true), (2, .cells (rws rc l) 67 false)] 3 (by decide) (fun m hm => absurd hm (Nat.not_lt_zero m)) ⟨rfl, rfl, rfl, rfl, trivial⟩ ⟨sf_ownp (rc_plain r) rfl rfl, sf_own rfl rfl, sf_winp (rcs_plain l) rfl get_zero_app, trivial⟩ rfl (bdH_c (by decide) (rc_plain r) (bdH_b (by decide) rfl (bdH_c (by decide) (rcs_plain l) rfl))) rfl ?_
  refine vc_seq ?_
  rcases near_cases l r b c2 hl hlc with ⟨e, he, hee, h46⟩ | ⟨he, hq, ht, h46⟩ | ⟨a, v, he, hq, ht, h46⟩
  · have h40 := p40 l c2 (by omega)
    refine vc_reg (by kernel_rfl) fun K hK => ?_
    refine run_n (z := false) 1 (fun K' hK' => hK' _ _ _ ?_) (by decide)
    clear hK' K'
    refine run_ro (fun _ => (2, 0)) (h40) ?_ rfl rfl rfl rfl ?_
    · intro x hx
      simp only [List.mem_singleton] at hx
      subst hx
      exact ⟨_, _, _, rfl, fun i v hv => by rw [Nat.zero_add]; exact hv⟩
    refine run_end (z := false) fun K' hK' => hK' _ _ _ (hK _ _ _ ?_)
    clear hK' K' hK K
    refine vc_seq ?_
    refine vc_reg (by kernel_rfl) fun K hK => ?_
    refine run_n (z := false) 3 (fun K' hK' => hK' _ _ _ ?_) (by decide)
    clear hK' K'
    refine run_fc (fun _ => (2, 0)) h46 (hasF ⟨sf_winp (rcs_plain l) rfl get_zero, trivial⟩ rfl) rfl rfl rfl rfl ⟨_, _, rfl, rfl⟩ ?_
    rintro _ _ ⟨rfl, rfl⟩
    refine run_end (z := false) fun K' hK' => hK' _ _ _ (hK _ _ _ ?_)
    clear hK' K' hK K
    refine vc_seq ?_
    refine vc_seq ?_
    refine vc_go (by kernel_rfl) fun K hK => hK _ _ _ ?_
    clear hK K
    refine vc_cond (t := true) (bb (bne_iff_ne.2 he)) (fun _ => ?_) (fun h => by cases h)
    refine vc_seq ?_
    refine vc_go (by kernel_rfl) fun K hK => hK _ _ _ ?_
    clear hK K
    exact vc_ret ⟨.inr rfl, rfl⟩
  · have h40 := p40 l c2 (by omega)
    rw [topQ_yes hq, ht] at h40
    obtain ⟨jok, jlen, jget, jdel, jat, jq, jb⟩ := joinQ_ok he
    obtain ⟨_, hr, _, hb, hfit⟩ := join_fits he
    have h43 := fun c => p43 (joinQ l r b) c r.id (by omega)
    have h47 := fun c => p47 (joinQ l r b) c (by omega)
    simp only [jq, chk1_yes jok, jlen] at h43 h47
    have hw1 : IntKind.i64.wrap ((l.length : Int) + 1) = ((l.length + 1 : Nat) : Int) := by rw [wrapI (by omega) (by omega)]; omega
    have hT : joinT l r b = r.n := by unfold joinT; rw [ht]
    refine vc_reg (by kernel_rfl) fun K hK => ?_
    refine run_n (z := false) 1 (fun K' hK' => hK' _ _ _ ?_) (by decide)
    clear hK' K'
    refine run_ro (fun _ => (2, 0)) (h40) ?_ rfl rfl rfl rfl ?_
    · intro x hx
      simp only [List.mem_singleton] at hx
      subst hx
      exact ⟨_, _, _, rfl, fun i v hv => by rw [Nat.zero_add]; exact hv⟩
    refine run_end (z := false) fun K' hK' => hK' _ _ _ (hK _ _ _ ?_)
    clear hK' K' hK K
    refine vc_seq ?_
    refine vc_reg (by kernel_rfl) fun K hK => ?_
    refine run_n (z := false) 3 (fun K' hK' => hK' _ _ _ ?_) (by decide)
    clear hK' K'
    refine run_fc (fun _ => (2, 0)) h46 (hasF ⟨sf_winp (rcs_plain l) rfl get_zero, trivial⟩ rfl) rfl rfl rfl rfl ⟨_, _, 0, [], rfl, rfl, rfl⟩ ?_
    rintro _ _ ⟨c3, sp3, hp3, rfl, rfl⟩
    rw [renU_c (renB_p (plainL_append (rcs_plain _) hp3)) renU_nil]
    refine run_end (z := false) fun K' hK' => hK' _ _ _ (hK _ _ _ ?_)
    clear hK' K' hK K
    refine refocusF [(2, u64 b), (4, .pointer (some ⟨0, 0, none⟩)), (6, .bool false), (7, .pointer (some ⟨1, 0, none⟩)), (8, .pointer (some ⟨8, 0, none⟩)), (9, .bool false), (10, .pointer (some ⟨16, 0, none⟩)), (11, .int .i64 0)] [(0, .cells (rc r) 67 true), (1, .cells [.slice (some ⟨2, 0, none⟩) l.length c2] 55 true), (2, .cells (rws rc l) 67 false), (8, .cells (frc 0 0) 58 true), (12, .cells (rws rc (joinQ l r b) ++ sp3) 67 true), (16, .cells [.slice (some ⟨12, 0, none⟩) (l.length + 1) c3] 55 true)] 17 (by decide) ⟨rfl, rfl, rfl, rfl, rfl, rfl, rfl, rfl, trivial⟩ ⟨sb rfl, sb rfl, sb rfl, sb rfl, sb rfl, sb rfl, trivial⟩ rfl (bdH_c (by decide) (rc_plain r) (bdH_b (by decide) rfl (bdH_c (by decide) (rcs_plain l) (bdH_c (by decide) (by rfl) (bdH_c (by decide) (plainL_append (rcs_plain _) hp3) (bdH_b (by decide) rfl rfl)))))) ?_
    refine vc_seq ?_
    refine vc_seq ?_
    refine vc_go (by kernel_rfl) fun K hK => hK _ _ _ ?_
    clear hK K
    refine vc_cond (t := false) rfl (fun h => by cases h) (fun _ => ?_)
    refine vc_skip ?_
    refine vc_seq ?_
    refine vc_reg (by kernel_rfl) fun K hK => ?_
    refine run_n (z := false) 3 (fun K' hK' => hK' _ _ _ ?_) (by decide)
    clear hK' K'
    refine run_ro (fun _ => (12, 0)) ((h43 c3)) ?_ rfl rfl rfl rfl ?_
    · intro x hx
      simp only [List.mem_singleton] at hx
      subst hx
      exact ⟨_, _, _, rfl, get_zero_app⟩
    refine run_end (z := false) fun K' hK' => hK' _ _ _ (hK _ _ _ ?_)
    clear hK' K' hK K
    refine vc_seq ?_
    refine vc_seq ?_
    refine vc_reg (by kernel_rfl) fun K hK => ?_
    refine run_n (z := false) 3 (fun K' hK' => hK' _ _ _ ?_) (by decide)
    clear hK' K'
    refine vgo_known 47 (b := false) (rfl) ?_
    refine run_n (z := false) 1 (fun K' hK' => hK' _ _ _ ?_) (by decide)
    clear hK' K'
    refine run_ro (fun _ => (12, 0)) ((h47 c3)) ?_ rfl rfl rfl rfl ?_
    · intro x hx
      simp only [List.mem_singleton] at hx
      subst hx
      exact ⟨_, _, _, rfl, get_zero_app⟩
    refine run_n (z := false) 3 (fun K' hK' => hK' _ _ _ ?_) (by decide)
    clear hK' K'
    refine vgo_known 52 (b := false) (rfl) ?_
    refine run_n (z := false) 10 (fun K' hK' => hK' _ _ _ ?_) (by decide)
    clear hK' K'
    refine vgo_known 62 (b := false) (bb (by rw [hw1]; simp)) ?_
    refine run_n (z := false) 7 (fun K' hK' => hK' _ _ _ ?_) (by decide)
    clear hK' K'
    refine vgo_known 69 (b := false) (bb (by simp)) ?_
    refine run_end (z := false) fun K' hK' => hK' _ _ _ (hK _ _ _ ?_)
    clear hK' K' hK K
    refine vc_cond (t := false) (bb (by simp)) (fun h => by cases h) (fun _ => ?_)
    refine vc_skip ?_
    refine vc_seq ?_
    refine vc_seq ?_
    refine vc_go (by kernel_rfl) fun K hK => hK _ _ _ ?_
    clear hK K
    refine vc_cond (t := true) rfl (fun _ => ?_) (fun h => by cases h)
    refine vc_seq ?_
    refine vc_go (by kernel_rfl) fun K hK => hK _ _ _ ?_
    clear hK K
    refine vc_ret ⟨.inr rfl, ?_⟩
    exact fin_bb ((rn_beq _ _).trans (decide_eq_true (by rw [hT]; rfl)))
  · have h40 := p40 l c2 (by omega)
    rw [topQ_yes hq, ht] at h40
    obtain ⟨jok, jlen, jget, jdel, jat, jq, jb⟩ := joinQ_ok he
    obtain ⟨_, hr, _, hb, hfit⟩ := join_fits he
    have h43 := fun c => p43 (joinQ l r b) c r.id (by omega)
    have h47 := fun c => p47 (joinQ l r b) c (by omega)
    simp only [jq, chk1_yes jok, jlen] at h43 h47
    have hw1 : IntKind.i64.wrap ((l.length : Int) + 1) = ((l.length + 1 : Nat) : Int) := by rw [wrapI (by omega) (by omega)]; omega
    have hra : rt a v = true := topS_rt (okq_mem hq) (fun x h => by cases h) _ ht
    have hv : 0 < v := (rt_w hra).1
    have hrr : rt r.n r.w = true := okR_rt hr
    have hA := hfit a v ht
    have hT : joinT l r b = joinN a v r.w (b * r.each.toNat) r.n := by unfold joinT; rw [ht]
    have hrT : rt (joinT l r b) r.w = true := rt_mk (rt_wt hrr) (joinT_lt he)
    obtain ⟨n1, n2⟩ := join_near (a := a) (v := v) (w := r.w) (k := b * r.each.toNat) (n := r.n) hv
    rw [← hT] at n1 n2
    have h48 : Pure 48 [fr (joinT l r b) r.w, fr a v] (.bool true) := by
      rcases Nat.eq_zero_or_pos (joinT l r b) with h | h
      · exact p48a hrT hra n1 h
      · refine p48b hrT hra n1 (by omega) ?_
        rcases n2 with n2 | n2
        · omega
        · unfold cmpW
          rw [if_pos n2]
          decide
    have h42 := p42y hrT hra
    have k42 := p42y hrr hra
    have h49 := fun c => leave_ok c (by omega) jok jget
    simp only [jdel, jlen, Nat.add_sub_cancel] at h49
    refine vc_reg (by kernel_rfl) fun K hK => ?_
    refine run_n (z := false) 1 (fun K' hK' => hK' _ _ _ ?_) (by decide)
    clear hK' K'
    refine run_ro (fun _ => (2, 0)) (h40) ?_ rfl rfl rfl rfl ?_
    · intro x hx
      simp only [List.mem_singleton] at hx
      subst hx
      exact ⟨_, _, _, rfl, fun i v hv => by rw [Nat.zero_add]; exact hv⟩
    refine run_end (z := false) fun K' hK' => hK' _ _ _ (hK _ _ _ ?_)
    clear hK' K' hK K
    refine vc_seq ?_
    refine vc_reg (by kernel_rfl) fun K hK => ?_
    refine run_n (z := false) 3 (fun K' hK' => hK' _ _ _ ?_) (by decide)
    clear hK' K'
    refine run_fc (fun _ => (2, 0)) h46 (hasF ⟨sf_winp (rcs_plain l) rfl get_zero, trivial⟩ rfl) rfl rfl rfl rfl ⟨_, _, 0, [], rfl, rfl, rfl⟩ ?_
    rintro _ _ ⟨c3, sp3, hp3, rfl, rfl⟩
    rw [renU_c (renB_p (plainL_append (rcs_plain _) hp3)) renU_nil]
    refine run_end (z := false) fun K' hK' => hK' _ _ _ (hK _ _ _ ?_)
    clear hK' K' hK K
    refine refocusF [(2, u64 b), (4, .pointer (some ⟨0, 0, none⟩)), (6, .bool false), (7, .pointer (some ⟨1, 0, none⟩)), (8, .pointer (some ⟨8, 0, none⟩)), (9, .bool true), (10, .pointer (some ⟨16, 0, none⟩)), (11, .int .i64 0)] [(0, .cells (rc r) 67 true), (1, .cells [.slice (some ⟨2, 0, none⟩) l.length c2] 55 true), (2, .cells (rws rc l) 67 false), (8, .cells (frc a v) 58 true), (12, .cells (rws rc (joinQ l r b) ++ sp3) 67 true), (16, .cells [.slice (some ⟨12, 0, none⟩) (l.length + 1) c3] 55 true)] 17 (by decide) ⟨rfl, rfl, rfl, rfl, rfl, rfl, rfl, rfl, trivial⟩ ⟨sb rfl, sb rfl, sb rfl, sb rfl, sb rfl, sb rfl, trivial⟩ rfl (bdH_c (by decide) (rc_plain r) (bdH_b (by decide) rfl (bdH_c (by decide) (rcs_plain l) (bdH_c (by decide) (by rfl) (bdH_c (by decide) (plainL_append (rcs_plain _) hp3) (bdH_b (by decide) rfl rfl)))))) ?_
    refine vc_seq ?_
    refine vc_seq ?_
    refine vc_go (by kernel_rfl) fun K hK => hK _ _ _ ?_
    clear hK K
    refine vc_cond (t := false) rfl (fun h => by cases h) (fun _ => ?_)
    refine vc_skip ?_
    refine vc_seq ?_
    refine vc_reg (by kernel_rfl) fun K hK => ?_
    refine run_n (z := false) 3 (fun K' hK' => hK' _ _ _ ?_) (by decide)
    clear hK' K'
    refine run_ro (fun _ => (12, 0)) ((h43 c3)) ?_ rfl rfl rfl rfl ?_
    · intro x hx
      simp only [List.mem_singleton] at hx
      subst hx
      exact ⟨_, _, _, rfl, get_zero_app⟩
    refine run_end (z := false) fun K' hK' => hK' _ _ _ (hK _ _ _ ?_)
    clear hK' K' hK K
    refine vc_seq ?_
    refine vc_seq ?_
    refine vc_reg (by kernel_rfl) fun K hK => ?_
    refine run_n (z := false) 3 (fun K' hK' => hK' _ _ _ ?_) (by decide)
    clear hK' K'
    refine vgo_known 47 (b := false) (rfl) ?_
    refine run_n (z := false) 1 (fun K' hK' => hK' _ _ _ ?_) (by decide)
    clear hK' K'
    refine run_ro (fun _ => (12, 0)) ((h47 c3)) ?_ rfl rfl rfl rfl ?_
    · intro x hx
      simp only [List.mem_singleton] at hx
      subst hx
      exact ⟨_, _, _, rfl, get_zero_app⟩
    refine run_n (z := false) 3 (fun K' hK' => hK' _ _ _ ?_) (by decide)
    clear hK' K'
    refine vgo_known 52 (b := false) (rfl) ?_
    refine run_n (z := false) 10 (fun K' hK' => hK' _ _ _ ?_) (by decide)
    clear hK' K'
    refine vgo_known 62 (b := false) (bb (by rw [hw1]; simp)) ?_
    refine run_n (z := false) 7 (fun K' hK' => hK' _ _ _ ?_) (by decide)
    clear hK' K'
    refine vgo_known 69 (b := false) (bb (by simp)) ?_
    refine run_end (z := false) fun K' hK' => hK' _ _ _ (hK _ _ _ ?_)
    clear hK' K' hK K
    refine vc_cond (t := false) (bb (by simp)) (fun h => by cases h) (fun _ => ?_)
    refine vc_skip ?_
    refine vc_seq ?_
    refine vc_seq ?_
    refine vc_go (by kernel_rfl) fun K hK => hK _ _ _ ?_
    clear hK K
    refine vc_cond (t := false) rfl (fun h => by cases h) (fun _ => ?_)
    refine vc_skip ?_
    refine vc_seq ?_
    refine vc_seq ?_
    by_cases hb0 : b = 0
    · have hz : cmpW (joinT l r b * v) (a * r.w) < 0 → False := by
        intro h
        rw [hT, hb0, Nat.zero_mul, join_zero] at h
        have := sc_ge' (a := a) (m := r.w) (d := v) hv
        unfold cmpW at h
        split at h
        · omega
        · split at h <;> simp at h
      refine vc_reg (by kernel_rfl) fun K hK => ?_
      refine run_n (z := false) 3 (fun K' hK' => hK' _ _ _ ?_) (by decide)
      clear hK' K'
      refine run_call (h48) rfl rfl rfl rfl ?_
      refine run_n (z := false) 2 (fun K' hK' => hK' _ _ _ ?_) (by decide)
      clear hK' K'
      refine vgo_known 88 (b := false) (rfl) ?_
      refine run_n (z := false) 3 (fun K' hK' => hK' _ _ _ ?_) (by decide)
      clear hK' K'
      refine vgo_known 91 (b := true) (bb (by simp [hb0])) ?_
      refine run_n (z := false) 3 (fun K' hK' => hK' _ _ _ ?_) (by decide)
      clear hK' K'
      refine run_call (h42) rfl rfl rfl rfl ?_
      refine run_end (z := false) fun K' hK' => hK' _ _ _ (hK _ _ _ ?_)
      clear hK' K' hK K
      refine vc_cond (t := false) (bb (decide_eq_false hz)) (fun h => by cases h) (fun _ => ?_)
      refine vc_skip ?_
      refine vc_seq ?_
      refine vc_seq ?_
      by_cases heq : cmpW (r.n * v) (a * r.w) = 0
      · have hTn : joinT l r b = r.n := by
          rw [hT]
          refine join_top hv ?_
          rw [cmpW_eq] at heq
          exact heq
        refine vc_reg (by kernel_rfl) fun K hK => ?_
        refine run_n (z := false) 3 (fun K' hK' => hK' _ _ _ ?_) (by decide)
        clear hK' K'
        refine run_call (k42) rfl rfl rfl rfl ?_
        refine run_n (z := false) 2 (fun K' hK' => hK' _ _ _ ?_) (by decide)
        clear hK' K'
        refine vgo_known 104 (b := true) (bb (by rw [heq]; rfl)) ?_
        refine run_end (z := false) fun K' hK' => hK' _ _ _ (hK _ _ _ ?_)
        clear hK' K' hK K
        refine vc_cond (t := false) (bb (by rw [hTn]; exact fr_neq r.n r.w)) (fun h => by cases h) (fun _ => ?_)
        refine vc_skip ?_
        refine vc_seq ?_
        refine vc_reg (by kernel_rfl) fun K hK => ?_
        refine run_n (z := false) 3 (fun K' hK' => hK' _ _ _ ?_) (by decide)
        clear hK' K'
        refine run_fc (fun _ => (12, 0)) (h49 c3) (hasF ⟨sf_winp (rcs_plain _) rfl get_zero_app, trivial⟩ rfl) rfl rfl rfl rfl ⟨_, _, _, [], Nat.le_refl _, rfl, rfl, rfl⟩ ?_
        rintro _ _ ⟨c4, sp4, _, hp4, rfl, rfl⟩
        rw [renU_c (renB_p (plainL_append (rcs_plain _) hp4)) renU_nil]
        refine run_end (z := false) fun K' hK' => hK' _ _ _ (hK _ _ _ ?_)
        clear hK' K' hK K
        refine vc_seq ?_
        refine vc_reg (by kernel_rfl) fun K hK => ?_
        refine run_n (z := false) 3 (fun K' hK' => hK' _ _ _ ?_) (by decide)
        clear hK' K'
        refine vgo_known 121 (b := true) (rfl) ?_
        refine run_n (z := false) 5 (fun K' hK' => hK' _ _ _ ?_) (by decide)
        clear hK' K'
        refine vgo_known 126 (b := true) (bb ((rn_beq _ _).trans (decide_eq_true rfl))) ?_
        refine run_n (z := false) 2 (fun K' hK' => hK' _ _ _ ?_) (by decide)
        clear hK' K'
        refine run_ro (fun k => if k = 0 then (28, 0) else (2, 0)) (same_ro l c4 c2 (by omega)) ?_ rfl rfl rfl rfl ?_
        · intro x hx
          simp only [List.mem_cons, List.mem_singleton, List.not_mem_nil, or_false] at hx
          rcases hx with rfl | rfl
          · exact ⟨_, _, _, rfl, get_zero_app⟩
          · exact ⟨_, _, _, rfl, fun i v hv => (congrArg (fun k => (rws rc l)[k]?) (Nat.zero_add i)).trans hv⟩
        refine run_end (z := false) fun K' hK' => hK' _ _ _ (hK _ _ _ ?_)
        clear hK' K' hK K
        exact vc_ret ⟨.inr rfl, rfl⟩
      · skip
        refine vc_reg (by kernel_rfl) fun K hK => ?_
        refine run_n (z := false) 3 (fun K' hK' => hK' _ _ _ ?_) (by decide)
        clear hK' K'
        refine run_call (k42) rfl rfl rfl rfl ?_
        refine run_n (z := false) 2 (fun K' hK' => hK' _ _ _ ?_) (by decide)
        clear hK' K'
        refine vgo_known 104 (b := false) (bb (beq_eq_false_iff_ne.2 heq)) ?_
        refine run_end (z := false) fun K' hK' => hK' _ _ _ (hK _ _ _ ?_)
        clear hK' K' hK K
        refine vc_cond (t := false) rfl (fun h => by cases h) (fun _ => ?_)
        refine vc_skip ?_
        refine vc_seq ?_
        refine vc_reg (by kernel_rfl) fun K hK => ?_
        refine run_n (z := false) 3 (fun K' hK' => hK' _ _ _ ?_) (by decide)
        clear hK' K'
        refine run_fc (fun _ => (12, 0)) (h49 c3) (hasF ⟨sf_winp (rcs_plain _) rfl get_zero_app, trivial⟩ rfl) rfl rfl rfl rfl ⟨_, _, _, [], Nat.le_refl _, rfl, rfl, rfl⟩ ?_
        rintro _ _ ⟨c4, sp4, _, hp4, rfl, rfl⟩
        rw [renU_c (renB_p (plainL_append (rcs_plain _) hp4)) renU_nil]
        refine run_end (z := false) fun K' hK' => hK' _ _ _ (hK _ _ _ ?_)
        clear hK' K' hK K
        refine vc_seq ?_
        refine vc_reg (by kernel_rfl) fun K hK => ?_
        refine run_n (z := false) 3 (fun K' hK' => hK' _ _ _ ?_) (by decide)
        clear hK' K'
        refine vgo_known 121 (b := true) (rfl) ?_
        refine run_n (z := false) 5 (fun K' hK' => hK' _ _ _ ?_) (by decide)
        clear hK' K'
        refine vgo_known 126 (b := true) (bb ((rn_beq _ _).trans (decide_eq_true rfl))) ?_
        refine run_n (z := false) 2 (fun K' hK' => hK' _ _ _ ?_) (by decide)
        clear hK' K'
        refine run_ro (fun k => if k = 0 then (28, 0) else (2, 0)) (same_ro l c4 c2 (by omega)) ?_ rfl rfl rfl rfl ?_
        · intro x hx
          simp only [List.mem_cons, List.mem_singleton, List.not_mem_nil, or_false] at hx
          rcases hx with rfl | rfl
          · exact ⟨_, _, _, rfl, get_zero_app⟩
          · exact ⟨_, _, _, rfl, fun i v hv => (congrArg (fun k => (rws rc l)[k]?) (Nat.zero_add i)).trans hv⟩
        refine run_end (z := false) fun K' hK' => hK' _ _ _ (hK _ _ _ ?_)
        clear hK' K' hK K
        exact vc_ret ⟨.inr rfl, rfl⟩
    · skip
      refine vc_reg (by kernel_rfl) fun K hK => ?_
      refine run_n (z := false) 3 (fun K' hK' => hK' _ _ _ ?_) (by decide)
      clear hK' K'
      refine run_call (h48) rfl rfl rfl rfl ?_
      refine run_n (z := false) 2 (fun K' hK' => hK' _ _ _ ?_) (by decide)
      clear hK' K'
      refine vgo_known 88 (b := false) (rfl) ?_
      refine run_n (z := false) 3 (fun K' hK' => hK' _ _ _ ?_) (by decide)
      clear hK' K'
      refine vgo_known 91 (b := false) (bb (by simp; omega)) ?_
      refine run_end (z := false) fun K' hK' => hK' _ _ _ (hK _ _ _ ?_)
      clear hK' K' hK K
      refine vc_cond (t := false) rfl (fun h => by cases h) (fun _ => ?_)
      refine vc_skip ?_
      refine vc_seq ?_
      refine vc_seq ?_
      by_cases heq : cmpW (r.n * v) (a * r.w) = 0
      · have hTn : joinT l r b = r.n := by
          rw [hT]
          refine join_top hv ?_
          rw [cmpW_eq] at heq
          exact heq
        refine vc_reg (by kernel_rfl) fun K hK => ?_
        refine run_n (z := false) 3 (fun K' hK' => hK' _ _ _ ?_) (by decide)
        clear hK' K'
        refine run_call (k42) rfl rfl rfl rfl ?_
        refine run_n (z := false) 2 (fun K' hK' => hK' _ _ _ ?_) (by decide)
        clear hK' K'
        refine vgo_known 104 (b := true) (bb (by rw [heq]; rfl)) ?_
        refine run_end (z := false) fun K' hK' => hK' _ _ _ (hK _ _ _ ?_)
        clear hK' K' hK K
        refine vc_cond (t := false) (bb (by rw [hTn]; exact fr_neq r.n r.w)) (fun h => by cases h) (fun _ => ?_)
        refine vc_skip ?_
        refine vc_seq ?_
        refine vc_reg (by kernel_rfl) fun K hK => ?_
        refine run_n (z := false) 3 (fun K' hK' => hK' _ _ _ ?_) (by decide)
        clear hK' K'
        refine run_fc (fun _ => (12, 0)) (h49 c3) (hasF ⟨sf_winp (rcs_plain _) rfl get_zero_app, trivial⟩ rfl) rfl rfl rfl rfl ⟨_, _, _, [], Nat.le_refl _, rfl, rfl, rfl⟩ ?_
        rintro _ _ ⟨c4, sp4, _, hp4, rfl, rfl⟩
        rw [renU_c (renB_p (plainL_append (rcs_plain _) hp4)) renU_nil]
        refine run_end (z := false) fun K' hK' => hK' _ _ _ (hK _ _ _ ?_)
        clear hK' K' hK K
        refine vc_seq ?_
        refine vc_reg (by kernel_rfl) fun K hK => ?_
        refine run_n (z := false) 3 (fun K' hK' => hK' _ _ _ ?_) (by decide)
        clear hK' K'
        refine vgo_known 121 (b := true) (rfl) ?_
        refine run_n (z := false) 5 (fun K' hK' => hK' _ _ _ ?_) (by decide)
        clear hK' K'
        refine vgo_known 126 (b := true) (bb ((rn_beq _ _).trans (decide_eq_true rfl))) ?_
        refine run_n (z := false) 2 (fun K' hK' => hK' _ _ _ ?_) (by decide)
        clear hK' K'
        refine run_ro (fun k => if k = 0 then (28, 0) else (2, 0)) (same_ro l c4 c2 (by omega)) ?_ rfl rfl rfl rfl ?_
        · intro x hx
          simp only [List.mem_cons, List.mem_singleton, List.not_mem_nil, or_false] at hx
          rcases hx with rfl | rfl
          · exact ⟨_, _, _, rfl, get_zero_app⟩
          · exact ⟨_, _, _, rfl, fun i v hv => (congrArg (fun k => (rws rc l)[k]?) (Nat.zero_add i)).trans hv⟩
        refine run_end (z := false) fun K' hK' => hK' _ _ _ (hK _ _ _ ?_)
        clear hK' K' hK K
        exact vc_ret ⟨.inr rfl, rfl⟩
      · skip
        refine vc_reg (by kernel_rfl) fun K hK => ?_
        refine run_n (z := false) 3 (fun K' hK' => hK' _ _ _ ?_) (by decide)
        clear hK' K'
        refine run_call (k42) rfl rfl rfl rfl ?_
        refine run_n (z := false) 2 (fun K' hK' => hK' _ _ _ ?_) (by decide)
        clear hK' K'
        refine vgo_known 104 (b := false) (bb (beq_eq_false_iff_ne.2 heq)) ?_
        refine run_end (z := false) fun K' hK' => hK' _ _ _ (hK _ _ _ ?_)
        clear hK' K' hK K
        refine vc_cond (t := false) rfl (fun h => by cases h) (fun _ => ?_)
        refine vc_skip ?_
        refine vc_seq ?_
        refine vc_reg (by kernel_rfl) fun K hK => ?_
        refine run_n (z := false) 3 (fun K' hK' => hK' _ _ _ ?_) (by decide)
        clear hK' K'
        refine run_fc (fun _ => (12, 0)) (h49 c3) (hasF ⟨sf_winp (rcs_plain _) rfl get_zero_app, trivial⟩ rfl) rfl rfl rfl rfl ⟨_, _, _, [], Nat.le_refl _, rfl, rfl, rfl⟩ ?_
        rintro _ _ ⟨c4, sp4, _, hp4, rfl, rfl⟩
        rw [renU_c (renB_p (plainL_append (rcs_plain _) hp4)) renU_nil]
        refine run_end (z := false) fun K' hK' => hK' _ _ _ (hK _ _ _ ?_)
        clear hK' K' hK K
        refine vc_seq ?_
        refine vc_reg (by kernel_rfl) fun K hK => ?_
        refine run_n (z := false) 3 (fun K' hK' => hK' _ _ _ ?_) (by decide)
        clear hK' K'
        refine vgo_known 121 (b := true) (rfl) ?_
        refine run_n (z := false) 5 (fun K' hK' => hK' _ _ _ ?_) (by decide)
        clear hK' K'
        refine vgo_known 126 (b := true) (bb ((rn_beq _ _).trans (decide_eq_true rfl))) ?_
        refine run_n (z := false) 2 (fun K' hK' => hK' _ _ _ ?_) (by decide)
        clear hK' K'
        refine run_ro (fun k => if k = 0 then (28, 0) else (2, 0)) (same_ro l c4 c2 (by omega)) ?_ rfl rfl rfl rfl ?_
        · intro x hx
          simp only [List.mem_cons, List.mem_singleton, List.not_mem_nil, or_false] at hx
          rcases hx with rfl | rfl
          · exact ⟨_, _, _, rfl, get_zero_app⟩
          · exact ⟨_, _, _, rfl, fun i v hv => (congrArg (fun k => (rws rc l)[k]?) (Nat.zero_add i)).trans hv⟩
        refine run_end (z := false) fun K' hK' => hK' _ _ _ (hK _ _ _ ?_)
        clear hK' K' hK K
        exact vc_ret ⟨.inr rfl, rfl⟩
theorem p9nil (r : Rn) (b : Nat) (hb64 : b < 2 ^ 64) : Pure 9 [qnil, rv r, u64 b] (.bool true) := by
  refine pure_of Try.func9 rfl Try.ntmps9 (by kernel_rfl) rfl (by simp) rfl ?_
  refine vc_seq ?_
  refine vc_go (by kernel_rfl) fun K hK => hK _ _ _ ?_
  clear hK K
  refine vc_seq ?_
  refine vc_seq ?_
  refine vc_reg (by kernel_rfl) fun K hK => ?_
  refine run_call (p38) rfl rfl rfl rfl ?_
  refine run_end (z := false) fun K' hK' => hK' _ _ _ (hK _ _ _ ?_)
  clear hK' K' hK K
  refine vc_cond (t := false) rfl (fun h => by cases h) (fun _ => ?_)
  refine vc_skip ?_
  refine vc_seq ?_
  refine vc_reg (by kernel_rfl) fun K hK => ?_
  refine run_n (z := false) 1 (fun K' hK' => hK' _ _ _ ?_) (by decide)
  clear hK' K'
  refine run_fc (fun k => (k, 0)) p39nil (hasF trivial rfl) rfl rfl rfl rfl ⟨_, _, rfl, rfl⟩ ?_
  rintro _ _ ⟨rfl, rfl⟩
  refine run_end (z := false) fun K' hK' => hK' _ _ _ (hK _ _ _ ?_)
  clear hK' K' hK K
  obtain ⟨c2, hc2⟩ : ∃ c2, c2 = 0 := ⟨_, rfl⟩
  obtain ⟨l, hll⟩ : ∃ l : List Rn, l = [] := ⟨_, rfl⟩
  have hlc : l.length ≤ c2 := by rw [hll]; exact Nat.zero_le _
  have hl : l.length ≤ 17 := by rw [hll]; decide
  refine renF (fun k => if k = 0 then 1 else if k = 1 then 4 else 3) [(2, u64 b), (4, .pointer (some ⟨0, 0, none⟩)), (6, .bool false), (7, .pointer (some ⟨1, 0, none⟩))] [(0, .cells (rc r) 67 true), (1, .cells [.slice (some ⟨2, 0, none⟩) l.length c2] 55 true), (2, .cells (rws rc l) 67 false)] 3 (by decide) (fun m hm => absurd hm (Nat.not_lt_zero m)) ⟨rfl, rfl, rfl, rfl, trivial⟩ (by subst hll; subst hc2; exact ⟨sf_ownp (rc_plain r) rfl rfl, sf_own rfl rfl, sf_winp (rcs_plain _) rfl get_zero, trivial⟩) rfl (bdH_c (by decide) (rc_plain r) (bdH_b (by decide) rfl (bdH_c (by decide) (rcs_plain l) rfl))) rfl ?_
  refine vc_seq ?_
  rcases near_cases l r b c2 hl hlc with ⟨e, he, hee, h46⟩ | ⟨he, hq, ht, h46⟩ | ⟨a, v, he, hq, ht, h46⟩
  · have h40 := p40 l c2 (by omega)
    refine vc_reg (by kernel_rfl) fun K hK => ?_
    refine run_n (z := false) 1 (fun K' hK' => hK' _ _ _ ?_) (by decide)
    clear hK' K'
    refine run_ro (fun _ => (2, 0)) (h40) ?_ rfl rfl rfl rfl ?_
    · intro x hx
      simp only [List.mem_singleton] at hx
      subst hx
      exact ⟨_, _, _, rfl, fun i v hv => by rw [Nat.zero_add]; exact hv⟩
    refine run_end (z := false) fun K' hK' => hK' _ _ _ (hK _ _ _ ?_)
    clear hK' K' hK K
    refine vc_seq ?_
    refine vc_reg (by kernel_rfl) fun K hK => ?_
    refine run_n (z := false) 3 (fun K' hK' => hK' _ _ _ ?_) (by decide)
    clear hK' K'
    refine run_fc (fun _ => (2, 0)) h46 (hasF ⟨sf_winp (rcs_plain l) rfl get_zero, trivial⟩ rfl) rfl rfl rfl rfl ⟨_, _, rfl, rfl⟩ ?_
    rintro _ _ ⟨rfl, rfl⟩
    refine run_end (z := false) fun K' hK' => hK' _ _ _ (hK _ _ _ ?_)
    clear hK' K' hK K
    refine vc_seq ?_
    refine vc_seq ?_
    refine vc_go (by kernel_rfl) fun K hK => hK _ _ _ ?_
    clear hK K
    refine vc_cond (t := true) (bb (bne_iff_ne.2 he)) (fun _ => ?_) (fun h => by cases h)
    refine vc_seq ?_
    refine vc_go (by kernel_rfl) fun K hK => hK _ _ _ ?_
    clear hK K
    exact vc_ret ⟨.inr rfl, rfl⟩
  · have h40 := p40 l c2 (by omega)
    rw [topQ_yes hq, ht] at h40
    obtain ⟨jok, jlen, jget, jdel, jat, jq, jb⟩ := joinQ_ok he
    obtain ⟨_, hr, _, hb, hfit⟩ := join_fits he
    have h43 := fun c => p43 (joinQ l r b) c r.id (by omega)
    have h47 := fun c => p47 (joinQ l r b) c (by omega)
    simp only [jq, chk1_yes jok, jlen] at h43 h47
    have hw1 : IntKind.i64.wrap ((l.length : Int) + 1) = ((l.length + 1 : Nat) : Int) := by rw [wrapI (by omega) (by omega)]; omega
    have hT : joinT l r b = r.n := by unfold joinT; rw [ht]
    refine vc_reg (by kernel_rfl) fun K hK => ?_
    refine run_n (z := false) 1 (fun K' hK' => hK' _ _ _ ?_) (by decide)
    clear hK' K'
    refine run_ro (fun _ => (2, 0)) (h40) ?_ rfl rfl rfl rfl ?_
    · intro x hx
      simp only [List.mem_singleton] at hx
      subst hx
      exact ⟨_, _, _, rfl, fun i v hv => by rw [Nat.zero_add]; exact hv⟩
    refine run_end (z := false) fun K' hK' => hK' _ _ _ (hK _ _ _ ?_)
    clear hK' K' hK K
    refine vc_seq ?_
    refine vc_reg (by kernel_rfl) fun K hK => ?_
    refine run_n (z := false) 3 (fun K' hK' => hK' _ _ _ ?_) (by decide)
    clear hK' K'
    refine run_fc (fun _ => (2, 0)) h46 (hasF ⟨sf_winp (rcs_plain l) rfl get_zero, trivial⟩ rfl) rfl rfl rfl rfl ⟨_, _, 0, [], rfl, rfl, rfl⟩ ?_
    rintro _ _ ⟨c3, sp3, hp3, rfl, rfl⟩
    rw [renU_c (renB_p (plainL_append (rcs_plain _) hp3)) renU_nil]
    refine run_end (z := false) fun K' hK' => hK' _ _ _ (hK _ _ _ ?_)
    clear hK' K' hK K
    refine refocusF [(2, u64 b), (4, .pointer (some ⟨0, 0, none⟩)), (6, .bool false), (7, .pointer (some ⟨1, 0, none⟩)), (8, .pointer (some ⟨8, 0, none⟩)), (9, .bool false), (10, .pointer (some ⟨16, 0, none⟩)), (11, .int .i64 0)] [(0, .cells (rc r) 67 true), (1, .cells [.slice (some ⟨2, 0, none⟩) l.length c2] 55 true), (2, .cells (rws rc l) 67 false), (8, .cells (frc 0 0) 58 true), (12, .cells (rws rc (joinQ l r b) ++ sp3) 67 true), (16, .cells [.slice (some ⟨12, 0, none⟩) (l.length + 1) c3] 55 true)] 17 (by decide) ⟨rfl, rfl, rfl, rfl, rfl, rfl, rfl, rfl, trivial⟩ ⟨sb rfl, sb rfl, sb rfl, sb rfl, sb rfl, sb rfl, trivial⟩ rfl (bdH_c (by decide) (rc_plain r) (bdH_b (by decide) rfl (bdH_c (by decide) (rcs_plain l) (bdH_c (by decide) (by rfl) (bdH_c (by decide) (plainL_append (rcs_plain _) hp3) (bdH_b (by decide) rfl rfl)))))) ?_
    refine vc_seq ?_
    refine vc_seq ?_
    refine vc_go (by kernel_rfl) fun K hK => hK _ _ _ ?_
    clear hK K
    refine vc_cond (t := false) rfl (fun h => by cases h) (fun _ => ?_)
    refine vc_skip ?_
    refine vc_seq ?_
    refine vc_reg (by kernel_rfl) fun K hK => ?_
    refine run_n (z := false) 3 (fun K' hK' => hK' _ _ _ ?_) (by decide)
    clear hK' K'
    refine run_ro (fun _ => (12, 0)) ((h43 c3)) ?_ rfl rfl rfl rfl ?_
    · intro x hx
      simp only [List.mem_singleton] at hx
      subst hx
      exact ⟨_, _, _, rfl, get_zero_app⟩
    refine run_end (z := false) fun K' hK' => hK' _ _ _ (hK _ _ _ ?_)
    clear hK' K' hK K
    refine vc_seq ?_
    refine vc_seq ?_
    refine vc_reg (by kernel_rfl) fun K hK => ?_
    refine run_n (z := false) 3 (fun K' hK' => hK' _ _ _ ?_) (by decide)
    clear hK' K'
    refine vgo_known 47 (b := false) (rfl) ?_
    refine run_n (z := false) 1 (fun K' hK' => hK' _ _ _ ?_) (by decide)
    clear hK' K'
    refine run_ro (fun _ => (12, 0)) ((h47 c3)) ?_ rfl rfl rfl rfl ?_
    · intro x hx
      simp only [List.mem_singleton] at hx
      subst hx
      exact ⟨_, _, _, rfl, get_zero_app⟩
    refine run_n (z := false) 3 (fun K' hK' => hK' _ _ _ ?_) (by decide)
    clear hK' K'
    refine vgo_known 52 (b := false) (rfl) ?_
    refine run_n (z := false) 10 (fun K' hK' => hK' _ _ _ ?_) (by decide)
    clear hK' K'
    refine vgo_known 62 (b := false) (bb (by rw [hw1]; simp)) ?_
    refine run_n (z := false) 7 (fun K' hK' => hK' _ _ _ ?_) (by decide)
    clear hK' K'
    refine vgo_known 69 (b := false) (bb (by simp)) ?_
    refine run_end (z := false) fun K' hK' => hK' _ _ _ (hK _ _ _ ?_)
    clear hK' K' hK K
    refine vc_cond (t := false) (bb (by simp)) (fun h => by cases h) (fun _ => ?_)
    refine vc_skip ?_
    refine vc_seq ?_
    refine vc_seq ?_
    refine vc_go (by kernel_rfl) fun K hK => hK _ _ _ ?_
    clear hK K
    refine vc_cond (t := true) rfl (fun _ => ?_) (fun h => by cases h)
    refine vc_seq ?_
    refine vc_go (by kernel_rfl) fun K hK => hK _ _ _ ?_
    clear hK K
    refine vc_ret ⟨.inr rfl, ?_⟩
    exact fin_bb ((rn_beq _ _).trans (decide_eq_true (by rw [hT]; rfl)))
  · have h40 := p40 l c2 (by omega)
    rw [topQ_yes hq, ht] at h40
    obtain ⟨jok, jlen, jget, jdel, jat, jq, jb⟩ := joinQ_ok he
    obtain ⟨_, hr, _, hb, hfit⟩ := join_fits he
    have h43 := fun c => p43 (joinQ l r b) c r.id (by omega)
    have h47 := fun c => p47 (joinQ l r b) c (by omega)
    simp only [jq, chk1_yes jok, jlen] at h43 h47
    have hw1 : IntKind.i64.wrap ((l.length : Int) + 1) = ((l.length + 1 : Nat) : Int) := by rw [wrapI (by omega) (by omega)]; omega
    have hra : rt a v = true := topS_rt (okq_mem hq) (fun x h => by cases h) _ ht
    have hv : 0 < v := (rt_w hra).1
    have hrr : rt r.n r.w = true := okR_rt hr
    have hA := hfit a v ht
    have hT : joinT l r b = joinN a v r.w (b * r.each.toNat) r.n := by unfold joinT; rw [ht]
    have hrT : rt (joinT l r b) r.w = true := rt_mk (rt_wt hrr) (joinT_lt he)
    obtain ⟨n1, n2⟩ := join_near (a := a) (v := v) (w := r.w) (k := b * r.each.toNat) (n := r.n) hv
    rw [← hT] at n1 n2
    have h48 : Pure 48 [fr (joinT l r b) r.w, fr a v] (.bool true) := by
      rcases Nat.eq_zero_or_pos (joinT l r b) with h | h
      · exact p48a hrT hra n1 h
      · refine p48b hrT hra n1 (by omega) ?_
        rcases n2 with n2 | n2
        · omega
        · unfold cmpW
          rw [if_pos n2]
          decide
    have h42 := p42y hrT hra
    have k42 := p42y hrr hra
    have h49 := fun c => leave_ok c (by omega) jok jget
    simp only [jdel, jlen, Nat.add_sub_cancel] at h49
    refine vc_reg (by kernel_rfl) fun K hK => ?_
    refine run_n (z := false) 1 (fun K' hK' => hK' _ _ _ ?_) (by decide)
    clear hK' K'
    refine run_ro (fun _ => (2, 0)) (h40) ?_ rfl rfl rfl rfl ?_
    · intro x hx
      simp only [List.mem_singleton] at hx
      subst hx
      exact ⟨_, _, _, rfl, fun i v hv => by rw [Nat.zero_add]; exact hv⟩
    refine run_end (z := false) fun K' hK' => hK' _ _ _ (hK _ _ _ ?_)
    clear hK' K' hK K
    refine vc_seq ?_
    refine vc_reg (by kernel_rfl) fun K hK => ?_
    refine run_n (z := false) 3 (fun K' hK' => hK' _ _ _ ?_) (by decide)
    clear hK' K'
    refine run_fc (fun _ => (2, 0)) h46 (hasF ⟨sf_winp (rcs_plain l) rfl get_zero, trivial⟩ rfl) rfl rfl rfl rfl ⟨_, _, 0, [], rfl, rfl, rfl⟩ ?_
    rintro _ _ ⟨c3, sp3, hp3, rfl, rfl⟩
    rw [renU_c (renB_p (plainL_append (rcs_plain _) hp3)) renU_nil]
    refine run_end (z := false) fun K' hK' => hK' _ _ _ (hK _ _ _ ?_)
    clear hK' K' hK K
    refine refocusF [(2, u64 b), (4, .pointer (some ⟨0, 0, none⟩)), (6, .bool false), (7, .pointer (some ⟨1, 0, none⟩)), (8, .pointer (some ⟨8, 0, none⟩)), (9, .bool true), (10, .pointer (some ⟨16, 0, none⟩)), (11, .int .i64 0)] [(0, .cells (rc r) 67 true), (1, .cells [.slice (some ⟨2, 0, none⟩) l.length c2] 55 true), (2, .cells (rws rc l) 67 false), (8, .cells (frc a v) 58 true), (12, .cells (rws rc (joinQ l r b) ++ sp3) 67 true), (16, .cells [.slice (some ⟨12, 0, none⟩) (l.length + 1) c3] 55 true)] 17 (by decide) ⟨rfl, rfl, rfl, rfl, rfl, rfl, rfl, rfl, trivial⟩ ⟨sb rfl, sb rfl, sb rfl, sb rfl, sb rfl, sb rfl, trivial⟩ rfl (bdH_c (by decide) (rc_plain r) (bdH_b (by decide) rfl (bdH_c (by decide) (rcs_plain l) (bdH_c (by decide) (by rfl) (bdH_c (by decide) (plainL_append (rcs_plain _) hp3) (bdH_b (by decide) rfl rfl)))))) ?_
    refine vc_seq ?_
    refine vc_seq ?_
    refine vc_go (by kernel_rfl) fun K hK => hK _ _ _ ?_
    clear hK K
    refine vc_cond (t := false) rfl (fun h => by cases h) (fun _ => ?_)
    refine vc_skip ?_
    refine vc_seq ?_
    refine vc_reg (by kernel_rfl) fun K hK => ?_
    refine run_n (z := false) 3 (fun K' hK' => hK' _ _ _ ?_) (by decide)
    clear hK' K'
    refine run_ro (fun _ => (12, 0)) ((h43 c3)) ?_ rfl rfl rfl rfl ?_
    · intro x hx
      simp only [List.mem_singleton] at hx
      subst hx
      exact ⟨_, _, _, rfl, get_zero_app⟩
    refine run_end (z := false) fun K' hK' => hK' _ _ _ (hK _ _ _ ?_)
    clear hK' K' hK K
    refine vc_seq ?_
    refine vc_seq ?_
    refine vc_reg (by kernel_rfl) fun K hK => ?_
    refine run_n (z := false) 3 (fun K' hK' => hK' _ _ _ ?_) (by decide)
    clear hK' K'
    refine vgo_known 47 (b := false) (rfl) ?_
    refine run_n (z := false) 1 (fun K' hK' => hK' _ _ _ ?_) (by decide)
    clear hK' K'
    refine run_ro (fun _ => (12, 0)) ((h47 c3)) ?_ rfl rfl rfl rfl ?_
    · intro x hx
      simp only [List.mem_singleton] at hx
      subst hx
      exact ⟨_, _, _, rfl, get_zero_app⟩
    refine run_n (z := false) 3 (fun K' hK' => hK' _ _ _ ?_) (by decide)
    clear hK' K'
    refine vgo_known 52 (b := false) (rfl) ?_
    refine run_n (z := false) 10 (fun K' hK' => hK' _ _ _ ?_) (by decide)
    clear hK' K'
    refine vgo_known 62 (b := false) (bb (by rw [hw1]; simp)) ?_
    refine run_n (z := false) 7 (fun K' hK' => hK' _ _ _ ?_) (by decide)
    clear hK' K'
    refine vgo_known 69 (b := false) (bb (by simp)) ?_
    refine run_end (z := false) fun K' hK' => hK' _ _ _ (hK _ _ _ ?_)
    clear hK' K' hK K
    refine vc_cond (t := false) (bb (by simp)) (fun h => by cases h) (fun _ => ?_)
    refine vc_skip ?_
    refine vc_seq ?_
    refine vc_seq ?_
    refine vc_go (by kernel_rfl) fun K hK => hK _ _ _ ?_
    clear hK K
    refine vc_cond (t := false) rfl (fun h => by cases h) (fun _ => ?_)
    refine vc_skip ?_
    refine vc_seq ?_
    refine vc_seq ?_
    by_cases hb0 : b = 0
    · have hz : cmpW (joinT l r b * v) (a * r.w) < 0 → False := by
        intro h
        rw [hT, hb0, Nat.zero_mul, join_zero] at h
        have := sc_ge' (a := a) (m := r.w) (d := v) hv
        unfold cmpW at h
        split at h
        · omega
        · split at h <;> simp at h
      refine vc_reg (by kernel_rfl) fun K hK => ?_
      refine run_n (z := false) 3 (fun K' hK' => hK' _ _ _ ?_) (by decide)
      clear hK' K'
      refine run_call (h48) rfl rfl rfl rfl ?_
      refine run_n (z := false) 2 (fun K' hK' => hK' _ _ _ ?_) (by decide)
      clear hK' K'
      refine vgo_known 88 (b := false) (rfl) ?_
      refine run_n (z := false) 3 (fun K' hK' => hK' _ _ _ ?_) (by decide)
      clear hK' K'
      refine vgo_known 91 (b := true) (bb (by simp [hb0])) ?_
      refine run_n (z := false) 3 (fun K' hK' => hK' _ _ _ ?_) (by decide)
      clear hK' K'
      refine run_call (h42) rfl rfl rfl rfl ?_
      refine run_end (z := false) fun K' hK' => hK' _ _ _ (hK _ _ _ ?_)
      clear hK' K' hK K
      refine vc_cond (t := false) (bb (decide_eq_false hz)) (fun h => by cases h) (fun _ => ?_)
      refine vc_skip ?_
      refine vc_seq ?_
      refine vc_seq ?_
      by_cases heq : cmpW (r.n * v) (a * r.w) = 0
      · have hTn : joinT l r b = r.n := by
          rw [hT]
          refine join_top hv ?_
          rw [cmpW_eq] at heq
          exact heq
        refine vc_reg (by kernel_rfl) fun K hK => ?_
        refine run_n (z := false) 3 (fun K' hK' => hK' _ _ _ ?_) (by decide)
        clear hK' K'
        refine run_call (k42) rfl rfl rfl rfl ?_
        refine run_n (z := false) 2 (fun K' hK' => hK' _ _ _ ?_) (by decide)
        clear hK' K'
        refine vgo_known 104 (b := true) (bb (by rw [heq]; rfl)) ?_
        refine run_end (z := false) fun K' hK' => hK' _ _ _ (hK _ _ _ ?_)
        clear hK' K' hK K
        refine vc_cond (t := false) (bb (by rw [hTn]; exact fr_neq r.n r.w)) (fun h => by cases h) (fun _ => ?_)
        refine vc_skip ?_
        refine vc_seq ?_
        refine vc_reg (by kernel_rfl) fun K hK => ?_
        refine run_n (z := false) 3 (fun K' hK' => hK' _ _ _ ?_) (by decide)
        clear hK' K'
        refine run_fc (fun _ => (12, 0)) (h49 c3) (hasF ⟨sf_winp (rcs_plain _) rfl get_zero_app, trivial⟩ rfl) rfl rfl rfl rfl ⟨_, _, _, [], Nat.le_refl _, rfl, rfl, rfl⟩ ?_
        rintro _ _ ⟨c4, sp4, _, hp4, rfl, rfl⟩
        rw [renU_c (renB_p (plainL_append (rcs_plain _) hp4)) renU_nil]
        refine run_end (z := false) fun K' hK' => hK' _ _ _ (hK _ _ _ ?_)
        clear hK' K' hK K
        refine vc_seq ?_
        refine vc_reg (by kernel_rfl) fun K hK => ?_
        refine run_n (z := false) 3 (fun K' hK' => hK' _ _ _ ?_) (by decide)
        clear hK' K'
        refine vgo_known 121 (b := true) (rfl) ?_
        refine run_n (z := false) 5 (fun K' hK' => hK' _ _ _ ?_) (by decide)
        clear hK' K'
        refine vgo_known 126 (b := true) (bb ((rn_beq _ _).trans (decide_eq_true rfl))) ?_
        refine run_n (z := false) 2 (fun K' hK' => hK' _ _ _ ?_) (by decide)
        clear hK' K'
        refine run_ro (fun k => if k = 0 then (28, 0) else (2, 0)) (same_ro l c4 c2 (by omega)) ?_ rfl rfl rfl rfl ?_
        · intro x hx
          simp only [List.mem_cons, List.mem_singleton, List.not_mem_nil, or_false] at hx
          rcases hx with rfl | rfl
          · exact ⟨_, _, _, rfl, get_zero_app⟩
          · exact ⟨_, _, _, rfl, fun i v hv => (congrArg (fun k => (rws rc l)[k]?) (Nat.zero_add i)).trans hv⟩
        refine run_end (z := false) fun K' hK' => hK' _ _ _ (hK _ _ _ ?_)
        clear hK' K' hK K
        exact vc_ret ⟨.inr rfl, rfl⟩
      · skip
        refine vc_reg (by kernel_rfl) fun K hK => ?_
        refine run_n (z := false) 3 (fun K' hK' => hK' _ _ _ ?_) (by decide)
        clear hK' K'
        refine run_call (k42) rfl rfl rfl rfl ?_
        refine run_n (z := false) 2 (fun K' hK' => hK' _ _ _ ?_) (by decide)
        clear hK' K'
        refine vgo_known 104 (b := false) (bb (beq_eq_false_iff_ne.2 heq)) ?_
        refine run_end (z := false) fun K' hK' => hK' _ _ _ (hK _ _ _ ?_)
        clear hK' K' hK K
        refine vc_cond (t := false) rfl (fun h => by cases h) (fun _ => ?_)
        refine vc_skip ?_
        refine vc_seq ?_
        refine vc_reg (by kernel_rfl) fun K hK => ?_
        refine run_n (z := false) 3 (fun K' hK' => hK' _ _ _ ?_) (by decide)
        clear hK' K'
        refine run_fc (fun _ => (12, 0)) (h49 c3) (hasF ⟨sf_winp (rcs_plain _) rfl get_zero_app, trivial⟩ rfl) rfl rfl rfl rfl ⟨_, _, _, [], Nat.le_refl _, rfl, rfl, rfl⟩ ?_
        rintro _ _ ⟨c4, sp4, _, hp4, rfl, rfl⟩
        rw [renU_c (renB_p (plainL_append (rcs_plain _) hp4)) renU_nil]
        refine run_end (z := false) fun K' hK' => hK' _ _ _ (hK _ _ _ ?_)
        clear hK' K' hK K
        refine vc_seq ?_
        refine vc_reg (by kernel_rfl) fun K hK => ?_
        refine run_n (z := false) 3 (fun K' hK' => hK' _ _ _ ?_) (by decide)
        clear hK' K'
        refine vgo_known 121 (b := true) (rfl) ?_
        refine run_n (z := false) 5 (fun K' hK' => hK' _ _ _ ?_) (by decide)
        clear hK' K'
        refine vgo_known 126 (b := true) (bb ((rn_beq _ _).trans (decide_eq_true rfl))) ?_
        refine run_n (z := false) 2 (fun K' hK' => hK' _ _ _ ?_) (by decide)
        clear hK' K'
        refine run_ro (fun k => if k = 0 then (28, 0) else (2, 0)) (same_ro l c4 c2 (by omega)) ?_ rfl rfl rfl rfl ?_
        · intro x hx
          simp only [List.mem_cons, List.mem_singleton, List.not_mem_nil, or_false] at hx
          rcases hx with rfl | rfl
          · exact ⟨_, _, _, rfl, get_zero_app⟩
          · exact ⟨_, _, _, rfl, fun i v hv => (congrArg (fun k => (rws rc l)[k]?) (Nat.zero_add i)).trans hv⟩
        refine run_end (z := false) fun K' hK' => hK' _ _ _ (hK _ _ _ ?_)
        clear hK' K' hK K
        exact vc_ret ⟨.inr rfl, rfl⟩
    · skip
      refine vc_reg (by kernel_rfl) fun K hK => ?_
      refine run_n (z := false) 3 (fun K' hK' => hK' _ _ _ ?_) (by decide)
      clear hK' K'
      refine run_call (h48) rfl rfl rfl rfl ?_
      refine run_n (z := false) 2 (fun K' hK' => hK' _ _ _ ?_) (by decide)
      clear hK' K'
      refine vgo_known 88 (b := false) (rfl) ?_
      refine run_n (z := false) 3 (fun K' hK' => hK' _ _ _ ?_) (by decide)
      clear hK' K'
      refine vgo_known 91 (b := false) (bb (by simp; omega)) ?_
      refine run_end (z := false) fun K' hK' => hK' _ _ _ (hK _ _ _ ?_)
      clear hK' K' hK K
      refine vc_cond (t := false) rfl (fun h => by cases h) (fun _ => ?_)
      refine vc_skip ?_
      refine vc_seq ?_
      refine vc_seq ?_
      by_cases heq : cmpW (r.n * v) (a * r.w) = 0
      · have hTn : joinT l r b = r.n := by
          rw [hT]
          refine join_top hv ?_
          rw [cmpW_eq] at heq
          exact heq
        refine vc_reg (by kernel_rfl) fun K hK => ?_
        refine run_n (z := false) 3 (fun K' hK' => hK' _ _ _ ?_) (by decide)
        clear hK' K'
        refine run_call (k42) rfl rfl rfl rfl ?_
        refine run_n (z := false) 2 (fun K' hK' => hK' _ _ _ ?_) (by decide)
        clear hK' K'
        refine vgo_known 104 (b := true) (bb (by rw [heq]; rfl)) ?_
        refine run_end (z := false) fun K' hK' => hK' _ _ _ (hK _ _ _ ?_)
        clear hK' K' hK K
        refine vc_cond (t := false) (bb (by rw [hTn]; exact fr_neq r.n r.w)) (fun h => by cases h) (fun _ => ?_)
        refine vc_skip ?_
        refine vc_seq ?_
        refine vc_reg (by kernel_rfl) fun K hK => ?_
        refine run_n (z := false) 3 (fun K' hK' => hK' _ _ _ ?_) (by decide)
        clear hK' K'
        refine run_fc (fun _ => (12, 0)) (h49 c3) (hasF ⟨sf_winp (rcs_plain _) rfl get_zero_app, trivial⟩ rfl) rfl rfl rfl rfl ⟨_, _, _, [], Nat.le_refl _, rfl, rfl, rfl⟩ ?_
        rintro _ _ ⟨c4, sp4, _, hp4, rfl, rfl⟩
        rw [renU_c (renB_p (plainL_append (rcs_plain _) hp4)) renU_nil]
        refine run_end (z := false) fun K' hK' => hK' _ _ _ (hK _ _ _ ?_)
        clear hK' K' hK K
        refine vc_seq ?_
        refine vc_reg (by kernel_rfl) fun K hK => ?_
        refine run_n (z := false) 3 (fun K' hK' => hK' _ _ _ ?_) (by decide)
        clear hK' K'
        refine vgo_known 121 (b := true) (rfl) ?_
        refine run_n (z := false) 5 (fun K' hK' => hK' _ _ _ ?_) (by decide)
        clear hK' K'
        refine vgo_known 126 (b := true) (bb ((rn_beq _ _).trans (decide_eq_true rfl))) ?_
        refine run_n (z := false) 2 (fun K' hK' => hK' _ _ _ ?_) (by decide)
        clear hK' K'
        refine run_ro (fun k => if k = 0 then (28, 0) else (2, 0)) (same_ro l c4 c2 (by omega)) ?_ rfl rfl rfl rfl ?_
        · intro x hx
          simp only [List.mem_cons, List.mem_singleton, List.not_mem_nil, or_false] at hx
          rcases hx with rfl | rfl
          · exact ⟨_, _, _, rfl, get_zero_app⟩
          · exact ⟨_, _, _, rfl, fun i v hv => (congrArg (fun k => (rws rc l)[k]?) (Nat.zero_add i)).trans hv⟩
        refine run_end (z := false) fun K' hK' => hK' _ _ _ (hK _ _ _ ?_)
        clear hK' K' hK K
        exact vc_ret ⟨.inr rfl, rfl⟩
      · skip
        refine vc_reg (by kernel_rfl) fun K hK => ?_
        refine run_n (z := false) 3 (fun K' hK' => hK' _ _ _ ?_) (by decide)
        clear hK' K'
        refine run_call (k42) rfl rfl rfl rfl ?_
        refine run_n (z := false) 2 (fun K' hK' => hK' _ _ _ ?_) (by decide)
        clear hK' K'
        refine vgo_known 104 (b := false) (bb (beq_eq_false_iff_ne.2 heq)) ?_
        refine run_end (z := false) fun K' hK' => hK' _ _ _ (hK _ _ _ ?_)
        clear hK' K' hK K
        refine vc_cond (t := false) rfl (fun h => by cases h) (fun _ => ?_)
        refine vc_skip ?_
        refine vc_seq ?_
        refine vc_reg (by kernel_rfl) fun K hK => ?_
        refine run_n (z := false) 3 (fun K' hK' => hK' _ _ _ ?_) (by decide)
        clear hK' K'
        refine run_fc (fun _ => (12, 0)) (h49 c3) (hasF ⟨sf_winp (rcs_plain _) rfl get_zero_app, trivial⟩ rfl) rfl rfl rfl rfl ⟨_, _, _, [], Nat.le_refl _, rfl, rfl, rfl⟩ ?_
        rintro _ _ ⟨c4, sp4, _, hp4, rfl, rfl⟩
        rw [renU_c (renB_p (plainL_append (rcs_plain _) hp4)) renU_nil]
        refine run_end (z := false) fun K' hK' => hK' _ _ _ (hK _ _ _ ?_)
        clear hK' K' hK K
        refine vc_seq ?_
        refine vc_reg (by kernel_rfl) fun K hK => ?_
        refine run_n (z := false) 3 (fun K' hK' => hK' _ _ _ ?_) (by decide)
        clear hK' K'
        refine vgo_known 121 (b := true) (rfl) ?_
        refine run_n (z := false) 5 (fun K' hK' => hK' _ _ _ ?_) (by decide)
        clear hK' K'
        refine vgo_known 126 (b := true) (bb ((rn_beq _ _).trans (decide_eq_true rfl))) ?_
        refine run_n (z := false) 2 (fun K' hK' => hK' _ _ _ ?_) (by decide)
        clear hK' K'
        refine run_ro (fun k => if k = 0 then (28, 0) else (2, 0)) (same_ro l c4 c2 (by omega)) ?_ rfl rfl rfl rfl ?_
        · intro x hx
          simp only [List.mem_cons, List.mem_singleton, List.not_mem_nil, or_false] at hx
          rcases hx with rfl | rfl
          · exact ⟨_, _, _, rfl, get_zero_app⟩
          · exact ⟨_, _, _, rfl, fun i v hv => (congrArg (fun k => (rws rc l)[k]?) (Nat.zero_add i)).trans hv⟩
        refine run_end (z := false) fun K' hK' => hK' _ _ _ (hK _ _ _ ?_)
        clear hK' K' hK K
        exact vc_ret ⟨.inr rfl, rfl⟩
end Go.Proofs.Ytdfkcijholopoaa.Vm
namespace Go.Proofs.Ytdfkcijholopoaa.Vm
open Go Go.RowKit
set_option maxRecDepth 10000
set_option linter.unusedSimpArgs false
set_option linter.unusedVariables false


/-- Leave, in two ways. -/
theorem leave_cases (l : List Rn) (t : Int) (c : Nat) (hl : l.length ≤ 17) :
    (∃ e, e ≠ 0 ∧ e = leaveE l t ∧ FC 49 [qv 0 l.length c, .int .i64 t] 1 [(0, .cells (rws rc l) 0 false)] (fun v u => v = .tuple #[qnil, rv z0, .int .i64 e] ∧ u = [])) ∨
    (∃ ld a, ld.length ≤ 17 ∧ okq 0 ld = true ∧ okR a = true ∧ a.id = t ∧ atB ld a.id = false ∧ FC 49 [qv 0 l.length c, .int .i64 t] 1 [(0, .cells (rws rc l) 0 false)] (Out49k ld ld.length a)) := by
  rcases p49 l t c (by omega) with ⟨h1, h2⟩ | ⟨h1, h2, h3, h4, a, ha, h6⟩
  · exact .inl ⟨_, h1, rfl, h2⟩
  · have ht : i64r t := by
      simp [inI] at h3
      constructor <;> omega
    obtain ⟨a', ha', hid, hi⟩ := atB_id h2 ht h4
    rw [ha] at ha'
    cases ha'
    refine .inr ⟨delQ l (atI l t), a, ?_, del_ok h2, (okq0.1 h2).1 a (List.mem_of_getElem? ha), hid, ?_, ?_⟩
    · rw [delQ_len hi]; omega
    · exact del_none h2 ha
    · rw [show (delQ l (atI l t)).length = l.length - 1 from delQ_len hi]
      exact h6
theorem joinE_131 {l : List Rn} {r : Rn} {e : Int} (hq : okq 0 l = true) (hr : okR r = true) (hb : atB l r.id = false) (he : e ≠ 0) (hee : e = joinE l r 0) : e = 131 := by
  subst hee
  revert he
  unfold joinE
  rw [if_neg (by decide), if_neg (by rw [hq]; simp), if_neg (by rw [hr]; simp), if_neg (by rw [hb]; simp)]
  cases topS none l with
  | none => intro h; exact absurd rfl h
  | some x =>
    simp only
    split
    · intro h; exact absurd rfl h
    · intro _; rfl


theorem cmpW_nn {a b : Nat} (h : b ≤ a) : cmpW a b ≥ 0 := by
  unfold cmpW
  split
  · omega
  · split <;> decide
theorem cmpW_self (a : Nat) : cmpW a a = 0 := by simp [cmpW]
theorem cmpW_ng {a b : Nat} (h : a < b) : ¬ cmpW a b ≥ 0 := by
  unfold cmpW
  rw [if_pos h]
  decide
theorem cmpW_ps {a b : Nat} (h : b < a) : cmpW a b > 0 := by
  unfold cmpW
  rw [if_neg (by omega), if_neg (by omega)]
  decide

theorem p20 (x : List Rn) (t : Int) (c : Nat) (hti : i64r t) (hc : x.length ≤ c) : RO 20 [qv 0 x.length c, .int .i64 t] [(0, rws rc x)] (.bool true) := by
  refine ro_of _ 1 Try.func20 rfl Try.ntmps20 (by kernel_rfl) (by simp) rfl rfl (by simp) (by simp [rcs_plain]) ?_
  refine vc_seq ?_
  refine vc_go (by kernel_rfl) fun K hK => hK _ _ _ ?_
  clear hK K
  refine vc_seq ?_
  refine vc_seq ?_
  refine vc_reg (by kernel_rfl) fun K hK => ?_
  refine run_call (p38) rfl rfl rfl rfl ?_
  refine run_end (z := false) fun K' hK' => hK' _ _ _ (hK _ _ _ ?_)
  clear hK' K' hK K
  refine vc_cond (t := false) rfl (fun h => by cases h) (fun _ => ?_)
  refine vc_skip ?_
  refine vc_seq ?_
  refine vc_reg (by kernel_rfl) fun K hK => ?_
  refine run_n (z := false) 1 (fun K' hK' => hK' _ _ _ ?_) (by decide)
  clear hK' K'
  refine run_fc (fun k => (k, 0)) (p39 hc) (hasF ⟨sf_winp (rcs_plain x) rfl get_zero, trivial⟩ rfl) rfl rfl rfl rfl ⟨_, _, _, Nat.le_refl _, rfl, rfl⟩ ?_
  rintro _ _ ⟨c2, hlc, rfl, rfl⟩
  rw [renU_c (renB_p (spare_plain _ _)) renU_nil]
  have hl : (x.take 17).length ≤ 17 := take17 x
  generalize x.take 17 = l at *
  refine run_end (z := false) fun K' hK' => hK' _ _ _ (hK _ _ _ ?_)
  clear hK' K' hK K
  refine renF (fun k => if k = 0 then 4 else 3) [(1, .int .i64 t), (4, .bool false), (5, .pointer (some ⟨0, 0, none⟩))] [(0, .cells [.slice (some ⟨1, 0, none⟩) l.length c2] 55 true), (1, .cells (rws rc l) 67 false)] 2 (by decide) (fun m hm => absurd hm (Nat.not_lt_zero m)) ⟨rfl, rfl, rfl, trivial⟩ ⟨sf_own rfl rfl, sf_winp (rcs_plain l) rfl get_zero_app, trivial⟩ rfl (bdH_b (by decide) rfl (bdH_c (by decide) (rcs_plain l) rfl)) rfl ?_
  refine vc_seq ?_
  rcases leave_cases l t c2 hl with ⟨e, he, hee, h49⟩ | ⟨ld, a, hld, hqd, hra, rfl, hba, h49⟩
  · skip
    refine vc_reg (by kernel_rfl) fun K hK => ?_
    refine run_n (z := false) 2 (fun K' hK' => hK' _ _ _ ?_) (by decide)
    clear hK' K'
    refine run_fc (fun _ => (1, 0)) h49 (hasF ⟨sf_winp (rcs_plain l) rfl get_zero, trivial⟩ rfl) rfl rfl rfl rfl ⟨_, _, rfl, rfl⟩ ?_
    rintro _ _ ⟨rfl, rfl⟩
    refine run_end (z := false) fun K' hK' => hK' _ _ _ (hK _ _ _ ?_)
    clear hK' K' hK K
    refine vc_seq ?_
    refine vc_seq ?_
    refine vc_go (by kernel_rfl) fun K hK => hK _ _ _ ?_
    clear hK K
    refine vc_cond (t := true) (bb (bne_iff_ne.2 he)) (fun _ => ?_) (fun h => by cases h)
    refine vc_seq ?_
    refine vc_reg (by kernel_rfl) fun K hK => ?_
    refine run_n (z := false) 5 (fun K' hK' => hK' _ _ _ ?_) (by decide)
    clear hK' K'
    refine vgo_known 33 (b := true) (rfl) ?_
    refine run_end (z := false) fun K' hK' => hK' _ _ _ (hK _ _ _ ?_)
    clear hK' K' hK K
    exact vc_ret ⟨.inr rfl, rfl⟩
  · have h43n := fun c => p43 ld c a.id (by omega)
    have h40n := fun c => p40 ld c (by omega)
    simp only [getQ_none hqd hba] at h43n
    refine vc_reg (by kernel_rfl) fun K hK => ?_
    refine run_n (z := false) 2 (fun K' hK' => hK' _ _ _ ?_) (by decide)
    clear hK' K'
    refine run_fc (fun _ => (1, 0)) h49 (hasF ⟨sf_winp (rcs_plain l) rfl get_zero, trivial⟩ rfl) rfl rfl rfl rfl ⟨_, _, _, [], Nat.le_refl _, rfl, rfl, rfl⟩ ?_
    rintro _ _ ⟨c3, sp3, hlc3, hp3, rfl, rfl⟩
    rw [renU_c (renB_p (plainL_append (rcs_plain _) hp3)) renU_nil]
    refine run_end (z := false) fun K' hK' => hK' _ _ _ (hK _ _ _ ?_)
    clear hK' K' hK K
    refine refocusF [(1, .int .i64 a.id), (4, .bool false), (6, .pointer (some ⟨9, 0, none⟩)), (7, .pointer (some ⟨10, 0, none⟩)), (8, .int .i64 0)] [(4, .cells (rws rc ld ++ sp3) 67 true), (9, .cells [.slice (some ⟨4, 0, none⟩) ld.length c3] 55 true), (10, .cells (rc a) 67 true)] 11 (by decide) ⟨rfl, rfl, rfl, rfl, rfl, trivial⟩ ⟨sb rfl, sb rfl, sb rfl, trivial⟩ rfl (bdH_c (by decide) (plainL_append (rcs_plain _) hp3) (bdH_b (by decide) rfl (bdH_c (by decide) (rc_plain a) rfl))) ?_
    refine vc_seq ?_
    refine vc_seq ?_
    refine vc_go (by kernel_rfl) fun K hK => hK _ _ _ ?_
    clear hK K
    refine vc_cond (t := false) (bb (by simp)) (fun h => by cases h) (fun _ => ?_)
    refine vc_skip ?_
    refine vc_seq ?_
    refine vc_seq ?_
    refine vc_reg (by kernel_rfl) fun K hK => ?_
    refine run_n (z := false) 2 (fun K' hK' => hK' _ _ _ ?_) (by decide)
    clear hK' K'
    refine run_ro (fun _ => (4, 0)) ((h43n c3)) ?_ rfl rfl rfl rfl ?_
    · intro x hx
      simp only [List.mem_singleton] at hx
      subst hx
      exact ⟨_, _, _, rfl, get_zero_app⟩
    refine run_end (z := false) fun K' hK' => hK' _ _ _ (hK _ _ _ ?_)
    clear hK' K' hK K
    refine vc_seq ?_
    refine vc_go (by kernel_rfl) fun K hK => hK _ _ _ ?_
    clear hK K
    refine vc_cond (t := false) rfl (fun h => by cases h) (fun _ => ?_)
    refine vc_skip ?_
    refine vc_seq ?_
    rcases near_cases ld a 0 c3 hld hlc3 with ⟨e, he, hee, h46⟩ | ⟨he, hq, ht, h46⟩ | ⟨ta, tv, he, hq, ht, h46⟩
    · have he1 := joinE_131 hqd hra hba he hee
      clear hee
      subst he1
      refine vc_reg (by kernel_rfl) fun K hK => ?_
      refine run_n (z := false) 2 (fun K' hK' => hK' _ _ _ ?_) (by decide)
      clear hK' K'
      refine run_fc (fun _ => (4, 0)) h46 (hasF ⟨sf_winp (rcs_plain ld) rfl get_zero_app, trivial⟩ rfl) rfl rfl rfl rfl ⟨_, _, rfl, rfl⟩ ?_
      rintro _ _ ⟨rfl, rfl⟩
      refine run_end (z := false) fun K' hK' => hK' _ _ _ (hK _ _ _ ?_)
      clear hK' K' hK K
      refine vc_seq ?_
      refine vc_seq ?_
      refine vc_go (by kernel_rfl) fun K hK => hK _ _ _ ?_
      clear hK K
      refine vc_cond (t := true) (bb (by simp)) (fun _ => ?_) (fun h => by cases h)
      refine vc_seq ?_
      refine vc_go (by kernel_rfl) fun K hK => hK _ _ _ ?_
      clear hK K
      exact vc_ret ⟨.inr rfl, rfl⟩
    · simp only [topQ_yes hq, ht] at h40n
      obtain ⟨jok, jlen, jget, jdel, jat, jq, jb⟩ := joinQ_ok he
      have h43m := fun c => p43 (joinQ ld a 0) c a.id (by omega)
      simp only [jq, jlen] at h43m
      have hrr : rt a.n a.w = true := okR_rt hra
      have hrT : rt (joinT ld a 0) a.w = true := rt_mk (rt_wt hrr) (joinT_lt he)
      have h42 := p42y hrT hrr
      have hT : joinT ld a 0 = a.n := by unfold joinT; rw [ht]
      refine vc_reg (by kernel_rfl) fun K hK => ?_
      refine run_n (z := false) 2 (fun K' hK' => hK' _ _ _ ?_) (by decide)
      clear hK' K'
      refine run_fc (fun _ => (4, 0)) h46 (hasF ⟨sf_winp (rcs_plain ld) rfl get_zero_app, trivial⟩ rfl) rfl rfl rfl rfl ⟨_, _, 0, [], rfl, rfl, rfl⟩ ?_
      rintro _ _ ⟨c4, sp4, hp4, rfl, rfl⟩
      rw [renU_c (renB_p (plainL_append (rcs_plain _) hp4)) renU_nil]
      refine run_end (z := false) fun K' hK' => hK' _ _ _ (hK _ _ _ ?_)
      clear hK' K' hK K
      refine refocusF [(1, .int .i64 a.id), (4, .bool false), (6, .pointer (some ⟨9, 0, none⟩)), (7, .pointer (some ⟨10, 0, none⟩)), (8, .int .i64 0), (11, .pointer (some ⟨24, 0, none⟩))] [(4, .cells (rws rc ld ++ sp3) 67 true), (9, .cells [.slice (some ⟨4, 0, none⟩) ld.length c3] 55 true), (10, .cells (rc a) 67 true), (20, .cells (rws rc (joinQ ld a 0) ++ sp4) 67 true), (24, .cells [.slice (some ⟨20, 0, none⟩) (ld.length + 1) c4] 55 true)] 25 (by decide) ⟨rfl, rfl, rfl, rfl, rfl, rfl, trivial⟩ ⟨sb rfl, sb rfl, sb rfl, sb rfl, sb rfl, trivial⟩ rfl (bdH_c (by decide) (plainL_append (rcs_plain _) hp3) (bdH_b (by decide) rfl (bdH_c (by decide) (rc_plain a) (bdH_c (by decide) (plainL_append (rcs_plain _) hp4) (bdH_b (by decide) rfl rfl))))) ?_
      refine vc_seq ?_
      refine vc_seq ?_
      refine vc_go (by kernel_rfl) fun K hK => hK _ _ _ ?_
      clear hK K
      refine vc_cond (t := false) (bb (by simp)) (fun h => by cases h) (fun _ => ?_)
      refine vc_skip ?_
      refine vc_seq ?_
      refine vc_reg (by kernel_rfl) fun K hK => ?_
      refine run_n (z := false) 2 (fun K' hK' => hK' _ _ _ ?_) (by decide)
      clear hK' K'
      refine run_ro (fun _ => (20, 0)) ((h43m c4)) ?_ rfl rfl rfl rfl ?_
      · intro x hx
        simp only [List.mem_singleton] at hx
        subst hx
        exact ⟨_, _, _, rfl, get_zero_app⟩
      refine run_end (z := false) fun K' hK' => hK' _ _ _ (hK _ _ _ ?_)
      clear hK' K' hK K
      refine vc_seq ?_
      refine vc_reg (by kernel_rfl) fun K hK => ?_
      refine run_n (z := false) 1 (fun K' hK' => hK' _ _ _ ?_) (by decide)
      clear hK' K'
      refine run_ro (fun _ => (4, 0)) ((h40n c3)) ?_ rfl rfl rfl rfl ?_
      · intro x hx
        simp only [List.mem_singleton] at hx
        subst hx
        exact ⟨_, _, _, rfl, get_zero_app⟩
      refine run_end (z := false) fun K' hK' => hK' _ _ _ (hK _ _ _ ?_)
      clear hK' K' hK K
      refine refocusF [(4, .bool false), (7, .pointer (some ⟨10, 0, none⟩)), (12, .pointer (some ⟨31, 0, none⟩)), (13, .bool true), (14, .pointer (some ⟨37, 0, none⟩)), (15, .bool false)] [(10, .cells (rc a) 67 true), (31, .cells (rc { a with n := joinT ld a 0 }) 67 true), (37, .cells (frc 0 0) 58 true)] 38 (by decide) ⟨rfl, rfl, rfl, rfl, rfl, rfl, trivial⟩ ⟨sb rfl, sb rfl, sb rfl, trivial⟩ rfl (bdH_c (by decide) (rc_plain a) (bdH_c (by decide) (rc_plain _) (bdH_c (by decide) (by rfl) rfl))) ?_
      refine vc_seq ?_
      refine vc_reg (by kernel_rfl) fun K hK => ?_
      refine run_n (z := false) 2 (fun K' hK' => hK' _ _ _ ?_) (by decide)
      clear hK' K'
      refine vgo_known 67 (b := true) (rfl) ?_
      refine run_n (z := false) 4 (fun K' hK' => hK' _ _ _ ?_) (by decide)
      clear hK' K'
      refine run_call (h42) rfl rfl rfl rfl ?_
      refine run_n (z := false) 2 (fun K' hK' => hK' _ _ _ ?_) (by decide)
      clear hK' K'
      refine vgo_known 74 (b := true) (bb (by rw [hT, cmpW_self]; rfl)) ?_
      refine run_n (z := false) 11 (fun K' hK' => hK' _ _ _ ?_) (by decide)
      clear hK' K'
      refine vgo_known 85 (b := true) (rfl) ?_
      refine run_n (z := false) 3 (fun K' hK' => hK' _ _ _ ?_) (by decide)
      clear hK' K'
      refine vgo_known 88 (b := true) (rfl) ?_
      refine run_end (z := false) fun K' hK' => hK' _ _ _ (hK _ _ _ ?_)
      clear hK' K' hK K
      exact vc_ret ⟨.inr rfl, rfl⟩
    · simp only [topQ_yes hq, ht] at h40n
      obtain ⟨jok, jlen, jget, jdel, jat, jq, jb⟩ := joinQ_ok he
      have h43m := fun c => p43 (joinQ ld a 0) c a.id (by omega)
      simp only [jq, jlen] at h43m
      have hrr : rt a.n a.w = true := okR_rt hra
      have hrT : rt (joinT ld a 0) a.w = true := rt_mk (rt_wt hrr) (joinT_lt he)
      have h42 := p42y hrT hrr
      have hrt : rt ta tv = true := topS_rt (okq_mem hq) (fun x h => by cases h) _ ht
      have hv : 0 < tv := (rt_w hrt).1
      have hT : joinT ld a 0 = sc ta a.w tv true := by
        unfold joinT
        rw [ht]
        show joinN ta tv a.w (0 * a.each.toNat) a.n = _
        rw [Nat.zero_mul, join_zero]
      have hge : ta * a.w ≤ joinT ld a 0 * tv := by
        rw [hT]
        exact sc_ge' hv
      have h42t := p42y hrT hrt
      have h42r := p42y hrr hrt
      refine vc_reg (by kernel_rfl) fun K hK => ?_
      refine run_n (z := false) 2 (fun K' hK' => hK' _ _ _ ?_) (by decide)
      clear hK' K'
      refine run_fc (fun _ => (4, 0)) h46 (hasF ⟨sf_winp (rcs_plain ld) rfl get_zero_app, trivial⟩ rfl) rfl rfl rfl rfl ⟨_, _, 0, [], rfl, rfl, rfl⟩ ?_
      rintro _ _ ⟨c4, sp4, hp4, rfl, rfl⟩
      rw [renU_c (renB_p (plainL_append (rcs_plain _) hp4)) renU_nil]
      refine run_end (z := false) fun K' hK' => hK' _ _ _ (hK _ _ _ ?_)
      clear hK' K' hK K
      refine refocusF [(1, .int .i64 a.id), (4, .bool false), (6, .pointer (some ⟨9, 0, none⟩)), (7, .pointer (some ⟨10, 0, none⟩)), (8, .int .i64 0), (11, .pointer (some ⟨24, 0, none⟩))] [(4, .cells (rws rc ld ++ sp3) 67 true), (9, .cells [.slice (some ⟨4, 0, none⟩) ld.length c3] 55 true), (10, .cells (rc a) 67 true), (20, .cells (rws rc (joinQ ld a 0) ++ sp4) 67 true), (24, .cells [.slice (some ⟨20, 0, none⟩) (ld.length + 1) c4] 55 true)] 25 (by decide) ⟨rfl, rfl, rfl, rfl, rfl, rfl, trivial⟩ ⟨sb rfl, sb rfl, sb rfl, sb rfl, sb rfl, trivial⟩ rfl (bdH_c (by decide) (plainL_append (rcs_plain _) hp3) (bdH_b (by decide) rfl (bdH_c (by decide) (rc_plain a) (bdH_c (by decide) (plainL_append (rcs_plain _) hp4) (bdH_b (by decide) rfl rfl))))) ?_
      refine vc_seq ?_
      refine vc_seq ?_
      refine vc_go (by kernel_rfl) fun K hK => hK _ _ _ ?_
      clear hK K
      refine vc_cond (t := false) (bb (by simp)) (fun h => by cases h) (fun _ => ?_)
      refine vc_skip ?_
      refine vc_seq ?_
      refine vc_reg (by kernel_rfl) fun K hK => ?_
      refine run_n (z := false) 2 (fun K' hK' => hK' _ _ _ ?_) (by decide)
      clear hK' K'
      refine run_ro (fun _ => (20, 0)) ((h43m c4)) ?_ rfl rfl rfl rfl ?_
      · intro x hx
        simp only [List.mem_singleton] at hx
        subst hx
        exact ⟨_, _, _, rfl, get_zero_app⟩
      refine run_end (z := false) fun K' hK' => hK' _ _ _ (hK _ _ _ ?_)
      clear hK' K' hK K
      refine vc_seq ?_
      refine vc_reg (by kernel_rfl) fun K hK => ?_
      refine run_n (z := false) 1 (fun K' hK' => hK' _ _ _ ?_) (by decide)
      clear hK' K'
      refine run_ro (fun _ => (4, 0)) ((h40n c3)) ?_ rfl rfl rfl rfl ?_
      · intro x hx
        simp only [List.mem_singleton] at hx
        subst hx
        exact ⟨_, _, _, rfl, get_zero_app⟩
      refine run_end (z := false) fun K' hK' => hK' _ _ _ (hK _ _ _ ?_)
      clear hK' K' hK K
      refine refocusF [(4, .bool false), (7, .pointer (some ⟨10, 0, none⟩)), (12, .pointer (some ⟨31, 0, none⟩)), (13, .bool true), (14, .pointer (some ⟨37, 0, none⟩)), (15, .bool true)] [(10, .cells (rc a) 67 true), (31, .cells (rc { a with n := joinT ld a 0 }) 67 true), (37, .cells (frc ta tv) 58 true)] 38 (by decide) ⟨rfl, rfl, rfl, rfl, rfl, rfl, trivial⟩ ⟨sb rfl, sb rfl, sb rfl, trivial⟩ rfl (bdH_c (by decide) (rc_plain a) (bdH_c (by decide) (rc_plain _) (bdH_c (by decide) (by rfl) rfl))) ?_
      refine vc_seq ?_
      by_cases hn : a.n ≤ joinT ld a 0
      · have hc1 : cmpW (joinT ld a 0 * a.w) (a.n * a.w) ≥ 0 := cmpW_nn (Nat.mul_le_mul_right _ hn)
        refine vc_reg (by kernel_rfl) fun K hK => ?_
        refine run_n (z := false) 2 (fun K' hK' => hK' _ _ _ ?_) (by decide)
        clear hK' K'
        refine vgo_known 67 (b := true) (rfl) ?_
        refine run_n (z := false) 4 (fun K' hK' => hK' _ _ _ ?_) (by decide)
        clear hK' K'
        refine run_call (h42) rfl rfl rfl rfl ?_
        refine run_n (z := false) 2 (fun K' hK' => hK' _ _ _ ?_) (by decide)
        clear hK' K'
        refine vgo_known 74 (b := true) (bb (decide_eq_true hc1)) ?_
        refine run_n (z := false) 11 (fun K' hK' => hK' _ _ _ ?_) (by decide)
        clear hK' K'
        refine vgo_known 85 (b := true) (rfl) ?_
        refine run_n (z := false) 3 (fun K' hK' => hK' _ _ _ ?_) (by decide)
        clear hK' K'
        refine vgo_known 88 (b := false) (rfl) ?_
        refine run_n (z := false) 3 (fun K' hK' => hK' _ _ _ ?_) (by decide)
        clear hK' K'
        refine run_call (h42t) rfl rfl rfl rfl ?_
        refine run_end (z := false) fun K' hK' => hK' _ _ _ (hK _ _ _ ?_)
        clear hK' K' hK K
        refine vc_ret ⟨.inr rfl, ?_⟩
        exact fin_bb (by simpa using cmpW_nn hge)
      · have hw0 : 0 < a.w := (rt_w hrr).1
        have hc1 : ¬ cmpW (joinT ld a 0 * a.w) (a.n * a.w) ≥ 0 := cmpW_ng (Nat.mul_lt_mul_of_pos_right (by omega) hw0)
        have hc2 : cmpW (a.n * tv) (ta * a.w) > 0 := cmpW_ps (Nat.lt_of_le_of_lt hge (Nat.mul_lt_mul_of_pos_right (by omega) hv))
        refine vc_reg (by kernel_rfl) fun K hK => ?_
        refine run_n (z := false) 2 (fun K' hK' => hK' _ _ _ ?_) (by decide)
        clear hK' K'
        refine vgo_known 67 (b := true) (rfl) ?_
        refine run_n (z := false) 4 (fun K' hK' => hK' _ _ _ ?_) (by decide)
        clear hK' K'
        refine run_call (h42) rfl rfl rfl rfl ?_
        refine run_n (z := false) 2 (fun K' hK' => hK' _ _ _ ?_) (by decide)
        clear hK' K'
        refine vgo_known 74 (b := false) (bb (decide_eq_false hc1)) ?_
        refine run_n (z := false) 2 (fun K' hK' => hK' _ _ _ ?_) (by decide)
        clear hK' K'
        refine vgo_known 76 (b := true) (rfl) ?_
        refine run_n (z := false) 3 (fun K' hK' => hK' _ _ _ ?_) (by decide)
        clear hK' K'
        refine run_call (h42r) rfl rfl rfl rfl ?_
        refine run_n (z := false) 5 (fun K' hK' => hK' _ _ _ ?_) (by decide)
        clear hK' K'
        refine vgo_known 85 (b := true) (bb (decide_eq_true hc2)) ?_
        refine run_n (z := false) 3 (fun K' hK' => hK' _ _ _ ?_) (by decide)
        clear hK' K'
        refine vgo_known 88 (b := false) (rfl) ?_
        refine run_n (z := false) 3 (fun K' hK' => hK' _ _ _ ?_) (by decide)
        clear hK' K'
        refine run_call (h42t) rfl rfl rfl rfl ?_
        refine run_end (z := false) fun K' hK' => hK' _ _ _ (hK _ _ _ ?_)
        clear hK' K' hK K
        refine vc_ret ⟨.inr rfl, ?_⟩
        exact fin_bb (by simp [hc2]; exact cmpW_nn hge)
theorem p20nil (t : Int) (hti : i64r t) : Pure 20 [qnil, .int .i64 t] (.bool true) := by
  refine pure_of Try.func20 rfl Try.ntmps20 (by kernel_rfl) rfl (by simp) rfl ?_
  refine vc_seq ?_
  refine vc_go (by kernel_rfl) fun K hK => hK _ _ _ ?_
  clear hK K
  refine vc_seq ?_
  refine vc_seq ?_
  refine vc_reg (by kernel_rfl) fun K hK => ?_
  refine run_call (p38) rfl rfl rfl rfl ?_
  refine run_end (z := false) fun K' hK' => hK' _ _ _ (hK _ _ _ ?_)
  clear hK' K' hK K
  refine vc_cond (t := false) rfl (fun h => by cases h) (fun _ => ?_)
  refine vc_skip ?_
  refine vc_seq ?_
  refine vc_reg (by kernel_rfl) fun K hK => ?_
  refine run_n (z := false) 1 (fun K' hK' => hK' _ _ _ ?_) (by decide)
  clear hK' K'
  refine run_fc (fun k => (k, 0)) p39nil (hasF trivial rfl) rfl rfl rfl rfl ⟨_, _, rfl, rfl⟩ ?_
  rintro _ _ ⟨rfl, rfl⟩
  refine run_end (z := false) fun K' hK' => hK' _ _ _ (hK _ _ _ ?_)
  clear hK' K' hK K
  obtain ⟨c2, hc2⟩ : ∃ c2, c2 = 0 := ⟨_, rfl⟩
  obtain ⟨l, hll⟩ : ∃ l : List Rn, l = [] := ⟨_, rfl⟩
  have hl : l.length ≤ 17 := by rw [hll]; decide
  refine renF (fun k => if k = 0 then 3 else 2) [(1, .int .i64 t), (4, .bool false), (5, .pointer (some ⟨0, 0, none⟩))] [(0, .cells [.slice (some ⟨1, 0, none⟩) l.length c2] 55 true), (1, .cells (rws rc l) 67 false)] 2 (by decide) (fun m hm => absurd hm (Nat.not_lt_zero m)) ⟨rfl, rfl, rfl, trivial⟩ (by subst hll; subst hc2; exact ⟨sf_own rfl rfl, sf_winp (rcs_plain _) rfl get_zero, trivial⟩) rfl (bdH_b (by decide) rfl (bdH_c (by decide) (rcs_plain l) rfl)) rfl ?_
  refine vc_seq ?_
  rcases leave_cases l t c2 hl with ⟨e, he, hee, h49⟩ | ⟨ld, a, hld, hqd, hra, rfl, hba, h49⟩
  · skip
    refine vc_reg (by kernel_rfl) fun K hK => ?_
    refine run_n (z := false) 2 (fun K' hK' => hK' _ _ _ ?_) (by decide)
    clear hK' K'
    refine run_fc (fun _ => (1, 0)) h49 (hasF ⟨sf_winp (rcs_plain l) rfl get_zero, trivial⟩ rfl) rfl rfl rfl rfl ⟨_, _, rfl, rfl⟩ ?_
    rintro _ _ ⟨rfl, rfl⟩
    refine run_end (z := false) fun K' hK' => hK' _ _ _ (hK _ _ _ ?_)
    clear hK' K' hK K
    refine vc_seq ?_
    refine vc_seq ?_
    refine vc_go (by kernel_rfl) fun K hK => hK _ _ _ ?_
    clear hK K
    refine vc_cond (t := true) (bb (bne_iff_ne.2 he)) (fun _ => ?_) (fun h => by cases h)
    refine vc_seq ?_
    refine vc_reg (by kernel_rfl) fun K hK => ?_
    refine run_n (z := false) 5 (fun K' hK' => hK' _ _ _ ?_) (by decide)
    clear hK' K'
    refine vgo_known 33 (b := true) (rfl) ?_
    refine run_end (z := false) fun K' hK' => hK' _ _ _ (hK _ _ _ ?_)
    clear hK' K' hK K
    exact vc_ret ⟨.inr rfl, rfl⟩
  · have h43n := fun c => p43 ld c a.id (by omega)
    have h40n := fun c => p40 ld c (by omega)
    simp only [getQ_none hqd hba] at h43n
    refine vc_reg (by kernel_rfl) fun K hK => ?_
    refine run_n (z := false) 2 (fun K' hK' => hK' _ _ _ ?_) (by decide)
    clear hK' K'
    refine run_fc (fun _ => (1, 0)) h49 (hasF ⟨sf_winp (rcs_plain l) rfl get_zero, trivial⟩ rfl) rfl rfl rfl rfl ⟨_, _, _, [], Nat.le_refl _, rfl, rfl, rfl⟩ ?_
    rintro _ _ ⟨c3, sp3, hlc3, hp3, rfl, rfl⟩
    rw [renU_c (renB_p (plainL_append (rcs_plain _) hp3)) renU_nil]
    refine run_end (z := false) fun K' hK' => hK' _ _ _ (hK _ _ _ ?_)
    clear hK' K' hK K
    refine refocusF [(1, .int .i64 a.id), (4, .bool false), (6, .pointer (some ⟨9, 0, none⟩)), (7, .pointer (some ⟨10, 0, none⟩)), (8, .int .i64 0)] [(4, .cells (rws rc ld ++ sp3) 67 true), (9, .cells [.slice (some ⟨4, 0, none⟩) ld.length c3] 55 true), (10, .cells (rc a) 67 true)] 11 (by decide) ⟨rfl, rfl, rfl, rfl, rfl, trivial⟩ ⟨sb rfl, sb rfl, sb rfl, trivial⟩ rfl (bdH_c (by decide) (plainL_append (rcs_plain _) hp3) (bdH_b (by decide) rfl (bdH_c (by decide) (rc_plain a) rfl))) ?_
    refine vc_seq ?_
    refine vc_seq ?_
    refine vc_go (by kernel_rfl) fun K hK => hK _ _ _ ?_
    clear hK K
    refine vc_cond (t := false) (bb (by simp)) (fun h => by cases h) (fun _ => ?_)
    refine vc_skip ?_
    refine vc_seq ?_
    refine vc_seq ?_
    refine vc_reg (by kernel_rfl) fun K hK => ?_
    refine run_n (z := false) 2 (fun K' hK' => hK' _ _ _ ?_) (by decide)
    clear hK' K'
    refine run_ro (fun _ => (4, 0)) ((h43n c3)) ?_ rfl rfl rfl rfl ?_
    · intro x hx
      simp only [List.mem_singleton] at hx
      subst hx
      exact ⟨_, _, _, rfl, get_zero_app⟩
    refine run_end (z := false) fun K' hK' => hK' _ _ _ (hK _ _ _ ?_)
    clear hK' K' hK K
    refine vc_seq ?_
    refine vc_go (by kernel_rfl) fun K hK => hK _ _ _ ?_
    clear hK K
    refine vc_cond (t := false) rfl (fun h => by cases h) (fun _ => ?_)
    refine vc_skip ?_
    refine vc_seq ?_
    rcases near_cases ld a 0 c3 hld hlc3 with ⟨e, he, hee, h46⟩ | ⟨he, hq, ht, h46⟩ | ⟨ta, tv, he, hq, ht, h46⟩
    · have he1 := joinE_131 hqd hra hba he hee
      clear hee
      subst he1
      refine vc_reg (by kernel_rfl) fun K hK => ?_
      refine run_n (z := false) 2 (fun K' hK' => hK' _ _ _ ?_) (by decide)
      clear hK' K'
      refine run_fc (fun _ => (4, 0)) h46 (hasF ⟨sf_winp (rcs_plain ld) rfl get_zero_app, trivial⟩ rfl) rfl rfl rfl rfl ⟨_, _, rfl, rfl⟩ ?_
      rintro _ _ ⟨rfl, rfl⟩
      refine run_end (z := false) fun K' hK' => hK' _ _ _ (hK _ _ _ ?_)
      clear hK' K' hK K
      refine vc_seq ?_
      refine vc_seq ?_
      refine vc_go (by kernel_rfl) fun K hK => hK _ _ _ ?_
      clear hK K
      refine vc_cond (t := true) (bb (by simp)) (fun _ => ?_) (fun h => by cases h)
      refine vc_seq ?_
      refine vc_go (by kernel_rfl) fun K hK => hK _ _ _ ?_
      clear hK K
      exact vc_ret ⟨.inr rfl, rfl⟩
    · simp only [topQ_yes hq, ht] at h40n
      obtain ⟨jok, jlen, jget, jdel, jat, jq, jb⟩ := joinQ_ok he
      have h43m := fun c => p43 (joinQ ld a 0) c a.id (by omega)
      simp only [jq, jlen] at h43m
      have hrr : rt a.n a.w = true := okR_rt hra
      have hrT : rt (joinT ld a 0) a.w = true := rt_mk (rt_wt hrr) (joinT_lt he)
      have h42 := p42y hrT hrr
      have hT : joinT ld a 0 = a.n := by unfold joinT; rw [ht]
      refine vc_reg (by kernel_rfl) fun K hK => ?_
      refine run_n (z := false) 2 (fun K' hK' => hK' _ _ _ ?_) (by decide)
      clear hK' K'
      refine run_fc (fun _ => (4, 0)) h46 (hasF ⟨sf_winp (rcs_plain ld) rfl get_zero_app, trivial⟩ rfl) rfl rfl rfl rfl ⟨_, _, 0, [], rfl, rfl, rfl⟩ ?_
      rintro _ _ ⟨c4, sp4, hp4, rfl, rfl⟩
      rw [renU_c (renB_p (plainL_append (rcs_plain _) hp4)) renU_nil]
      refine run_end (z := false) fun K' hK' => hK' _ _ _ (hK _ _ _ ?_)
      clear hK' K' hK K
      refine refocusF [(1, .int .i64 a.id), (4, .bool false), (6, .pointer (some ⟨9, 0, none⟩)), (7, .pointer (some ⟨10, 0, none⟩)), (8, .int .i64 0), (11, .pointer (some ⟨24, 0, none⟩))] [(4, .cells (rws rc ld ++ sp3) 67 true), (9, .cells [.slice (some ⟨4, 0, none⟩) ld.length c3] 55 true), (10, .cells (rc a) 67 true), (20, .cells (rws rc (joinQ ld a 0) ++ sp4) 67 true), (24, .cells [.slice (some ⟨20, 0, none⟩) (ld.length + 1) c4] 55 true)] 25 (by decide) ⟨rfl, rfl, rfl, rfl, rfl, rfl, trivial⟩ ⟨sb rfl, sb rfl, sb rfl, sb rfl, sb rfl, trivial⟩ rfl (bdH_c (by decide) (plainL_append (rcs_plain _) hp3) (bdH_b (by decide) rfl (bdH_c (by decide) (rc_plain a) (bdH_c (by decide) (plainL_append (rcs_plain _) hp4) (bdH_b (by decide) rfl rfl))))) ?_
      refine vc_seq ?_
      refine vc_seq ?_
      refine vc_go (by kernel_rfl) fun K hK => hK _ _ _ ?_
      clear hK K
      refine vc_cond (t := false) (bb (by simp)) (fun h => by cases h) (fun _ => ?_)
      refine vc_skip ?_
      refine vc_seq ?_
      refine vc_reg (by kernel_rfl) fun K hK => ?_
      refine run_n (z := false) 2 (fun K' hK' => hK' _ _ _ ?_) (by decide)
      clear hK' K'
      refine run_ro (fun _ => (20, 0)) ((h43m c4)) ?_ rfl rfl rfl rfl ?_
      · intro x hx
        simp only [List.mem_singleton] at hx
        subst hx
        exact ⟨_, _, _, rfl, get_zero_app⟩
      refine run_end (z := false) fun K' hK' => hK' _ _ _ (hK _ _ _ ?_)
      clear hK' K' hK K
      refine vc_seq ?_
      refine vc_reg (by kernel_rfl) fun K hK => ?_
      refine run_n (z := false) 1 (fun K' hK' => hK' _ _ _ ?_) (by decide)
      clear hK' K'
      refine run_ro (fun _ => (4, 0)) ((h40n c3)) ?_ rfl rfl rfl rfl ?_
      · intro x hx
        simp only [List.mem_singleton] at hx
        subst hx
        exact ⟨_, _, _, rfl, get_zero_app⟩
      refine run_end (z := false) fun K' hK' => hK' _ _ _ (hK _ _ _ ?_)
      clear hK' K' hK K
      refine refocusF [(4, .bool false), (7, .pointer (some ⟨10, 0, none⟩)), (12, .pointer (some ⟨31, 0, none⟩)), (13, .bool true), (14, .pointer (some ⟨37, 0, none⟩)), (15, .bool false)] [(10, .cells (rc a) 67 true), (31, .cells (rc { a with n := joinT ld a 0 }) 67 true), (37, .cells (frc 0 0) 58 true)] 38 (by decide) ⟨rfl, rfl, rfl, rfl, rfl, rfl, trivial⟩ ⟨sb rfl, sb rfl, sb rfl, trivial⟩ rfl (bdH_c (by decide) (rc_plain a) (bdH_c (by decide) (rc_plain _) (bdH_c (by decide) (by rfl) rfl))) ?_
      refine vc_seq ?_
      refine vc_reg (by kernel_rfl) fun K hK => ?_
      refine run_n (z := false) 2 (fun K' hK' => hK' _ _ _ ?_) (by decide)
      clear hK' K'
      refine vgo_known 67 (b := true) (rfl) ?_
      refine run_n (z := false) 4 (fun K' hK' => hK' _ _ _ ?_) (by decide)
      clear hK' K'
      refine run_call (h42) rfl rfl rfl rfl ?_
      refine run_n (z := false) 2 (fun K' hK' => hK' _ _ _ ?_) (by decide)
      clear hK' K'
      refine vgo_known 74 (b := true) (bb (by rw [hT, cmpW_self]; rfl)) ?_
      refine run_n (z := false) 11 (fun K' hK' => hK' _ _ _ ?_) (by decide)
      clear hK' K'
      refine vgo_known 85 (b := true) (rfl) ?_
      refine run_n (z := false) 3 (fun K' hK' => hK' _ _ _ ?_) (by decide)
      clear hK' K'
      refine vgo_known 88 (b := true) (rfl) ?_
      refine run_end (z := false) fun K' hK' => hK' _ _ _ (hK _ _ _ ?_)
      clear hK' K' hK K
      exact vc_ret ⟨.inr rfl, rfl⟩
    · simp only [topQ_yes hq, ht] at h40n
      obtain ⟨jok, jlen, jget, jdel, jat, jq, jb⟩ := joinQ_ok he
      have h43m := fun c => p43 (joinQ ld a 0) c a.id (by omega)
      simp only [jq, jlen] at h43m
      have hrr : rt a.n a.w = true := okR_rt hra
      have hrT : rt (joinT ld a 0) a.w = true := rt_mk (rt_wt hrr) (joinT_lt he)
      have h42 := p42y hrT hrr
      have hrt : rt ta tv = true := topS_rt (okq_mem hq) (fun x h => by cases h) _ ht
      have hv : 0 < tv := (rt_w hrt).1
      have hT : joinT ld a 0 = sc ta a.w tv true := by
        unfold joinT
        rw [ht]
        show joinN ta tv a.w (0 * a.each.toNat) a.n = _
        rw [Nat.zero_mul, join_zero]
      have hge : ta * a.w ≤ joinT ld a 0 * tv := by
        rw [hT]
        exact sc_ge' hv
      have h42t := p42y hrT hrt
      have h42r := p42y hrr hrt
      refine vc_reg (by kernel_rfl) fun K hK => ?_
      refine run_n (z := false) 2 (fun K' hK' => hK' _ _ _ ?_) (by decide)
      clear hK' K'
      refine run_fc (fun _ => (4, 0)) h46 (hasF ⟨sf_winp (rcs_plain ld) rfl get_zero_app, trivial⟩ rfl) rfl rfl rfl rfl ⟨_, _, 0, [], rfl, rfl, rfl⟩ ?_
      rintro _ _ ⟨c4, sp4, hp4, rfl, rfl⟩
      rw [renU_c (renB_p (plainL_append (rcs_plain _) hp4)) renU_nil]
      refine run_end (z := false) fun K' hK' => hK' _ _ _ (hK _ _ _ ?_)
      clear hK' K' hK K
      refine refocusF [(1, .int .i64 a.id), (4, .bool false), (6, .pointer (some ⟨9, 0, none⟩)), (7, .pointer (some ⟨10, 0, none⟩)), (8, .int .i64 0), (11, .pointer (some ⟨24, 0, none⟩))] [(4, .cells (rws rc ld ++ sp3) 67 true), (9, .cells [.slice (some ⟨4, 0, none⟩) ld.length c3] 55 true), (10, .cells (rc a) 67 true), (20, .cells (rws rc (joinQ ld a 0) ++ sp4) 67 true), (24, .cells [.slice (some ⟨20, 0, none⟩) (ld.length + 1) c4] 55 true)] 25 (by decide) ⟨rfl, rfl, rfl, rfl, rfl, rfl, trivial⟩ ⟨sb rfl, sb rfl, sb rfl, sb rfl, sb rfl, trivial⟩ rfl (bdH_c (by decide) (plainL_append (rcs_plain _) hp3) (bdH_b (by decide) rfl (bdH_c (by decide) (rc_plain a) (bdH_c (by decide) (plainL_append (rcs_plain _) hp4) (bdH_b (by decide) rfl rfl))))) ?_
      refine vc_seq ?_
      refine vc_seq ?_
      refine vc_go (by kernel_rfl) fun K hK => hK _ _ _ ?_
      clear hK K
      refine vc_cond (t := false) (bb (by simp)) (fun h => by cases h) (fun _ => ?_)
      refine vc_skip ?_
      refine vc_seq ?_
      refine vc_reg (by kernel_rfl) fun K hK => ?_
      refine run_n (z := false) 2 (fun K' hK' => hK' _ _ _ ?_) (by decide)
      clear hK' K'
      refine run_ro (fun _ => (20, 0)) ((h43m c4)) ?_ rfl rfl rfl rfl ?_
      · intro x hx
        simp only [List.mem_singleton] at hx
        subst hx
        exact ⟨_, _, _, rfl, get_zero_app⟩
      refine run_end (z := false) fun K' hK' => hK' _ _ _ (hK _ _ _ ?_)
      clear hK' K' hK K
      refine vc_seq ?_
      refine vc_reg (by kernel_rfl) fun K hK => ?_
      refine run_n (z := false) 1 (fun K' hK' => hK' _ _ _ ?_) (by decide)
      clear hK' K'
      refine run_ro (fun _ => (4, 0)) ((h40n c3)) ?_ rfl rfl rfl rfl ?_
      · intro x hx
        simp only [List.mem_singleton] at hx
        subst hx
        exact ⟨_, _, _, rfl, get_zero_app⟩
      refine run_end (z := false) fun K' hK' => hK' _ _ _ (hK _ _ _ ?_)
      clear hK' K' hK K
      refine refocusF [(4, .bool false), (7, .pointer (some ⟨10, 0, none⟩)), (12, .pointer (some ⟨31, 0, none⟩)), (13, .bool true), (14, .pointer (some ⟨37, 0, none⟩)), (15, .bool true)] [(10, .cells (rc a) 67 true), (31, .cells (rc { a with n := joinT ld a 0 }) 67 true), (37, .cells (frc ta tv) 58 true)] 38 (by decide) ⟨rfl, rfl, rfl, rfl, rfl, rfl, trivial⟩ ⟨sb rfl, sb rfl, sb rfl, trivial⟩ rfl (bdH_c (by decide) (rc_plain a) (bdH_c (by decide) (rc_plain _) (bdH_c (by decide) (by rfl) rfl))) ?_
      refine vc_seq ?_
      by_cases hn : a.n ≤ joinT ld a 0
      · have hc1 : cmpW (joinT ld a 0 * a.w) (a.n * a.w) ≥ 0 := cmpW_nn (Nat.mul_le_mul_right _ hn)
        refine vc_reg (by kernel_rfl) fun K hK => ?_
        refine run_n (z := false) 2 (fun K' hK' => hK' _ _ _ ?_) (by decide)
        clear hK' K'
        refine vgo_known 67 (b := true) (rfl) ?_
        refine run_n (z := false) 4 (fun K' hK' => hK' _ _ _ ?_) (by decide)
        clear hK' K'
        refine run_call (h42) rfl rfl rfl rfl ?_
        refine run_n (z := false) 2 (fun K' hK' => hK' _ _ _ ?_) (by decide)
        clear hK' K'
        refine vgo_known 74 (b := true) (bb (decide_eq_true hc1)) ?_
        refine run_n (z := false) 11 (fun K' hK' => hK' _ _ _ ?_) (by decide)
        clear hK' K'
        refine vgo_known 85 (b := true) (rfl) ?_
        refine run_n (z := false) 3 (fun K' hK' => hK' _ _ _ ?_) (by decide)
        clear hK' K'
        refine vgo_known 88 (b := false) (rfl) ?_
        refine run_n (z := false) 3 (fun K' hK' => hK' _ _ _ ?_) (by decide)
        clear hK' K'
        refine run_call (h42t) rfl rfl rfl rfl ?_
        refine run_end (z := false) fun K' hK' => hK' _ _ _ (hK _ _ _ ?_)
        clear hK' K' hK K
        refine vc_ret ⟨.inr rfl, ?_⟩
        exact fin_bb (by simpa using cmpW_nn hge)
      · have hw0 : 0 < a.w := (rt_w hrr).1
        have hc1 : ¬ cmpW (joinT ld a 0 * a.w) (a.n * a.w) ≥ 0 := cmpW_ng (Nat.mul_lt_mul_of_pos_right (by omega) hw0)
        have hc2 : cmpW (a.n * tv) (ta * a.w) > 0 := cmpW_ps (Nat.lt_of_le_of_lt hge (Nat.mul_lt_mul_of_pos_right (by omega) hv))
        refine vc_reg (by kernel_rfl) fun K hK => ?_
        refine run_n (z := false) 2 (fun K' hK' => hK' _ _ _ ?_) (by decide)
        clear hK' K'
        refine vgo_known 67 (b := true) (rfl) ?_
        refine run_n (z := false) 4 (fun K' hK' => hK' _ _ _ ?_) (by decide)
        clear hK' K'
        refine run_call (h42) rfl rfl rfl rfl ?_
        refine run_n (z := false) 2 (fun K' hK' => hK' _ _ _ ?_) (by decide)
        clear hK' K'
        refine vgo_known 74 (b := false) (bb (decide_eq_false hc1)) ?_
        refine run_n (z := false) 2 (fun K' hK' => hK' _ _ _ ?_) (by decide)
        clear hK' K'
        refine vgo_known 76 (b := true) (rfl) ?_
        refine run_n (z := false) 3 (fun K' hK' => hK' _ _ _ ?_) (by decide)
        clear hK' K'
        refine run_call (h42r) rfl rfl rfl rfl ?_
        refine run_n (z := false) 5 (fun K' hK' => hK' _ _ _ ?_) (by decide)
        clear hK' K'
        refine vgo_known 85 (b := true) (bb (decide_eq_true hc2)) ?_
        refine run_n (z := false) 3 (fun K' hK' => hK' _ _ _ ?_) (by decide)
        clear hK' K'
        refine vgo_known 88 (b := false) (rfl) ?_
        refine run_n (z := false) 3 (fun K' hK' => hK' _ _ _ ?_) (by decide)
        clear hK' K'
        refine run_call (h42t) rfl rfl rfl rfl ?_
        refine run_end (z := false) fun K' hK' => hK' _ _ _ (hK _ _ _ ?_)
        clear hK' K' hK K
        refine vc_ret ⟨.inr rfl, ?_⟩
        exact fin_bb (by simp [hc2]; exact cmpW_nn hge)
end Go.Proofs.Ytdfkcijholopoaa.Vm
