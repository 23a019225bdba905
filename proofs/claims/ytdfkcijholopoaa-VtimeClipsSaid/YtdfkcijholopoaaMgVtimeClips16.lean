/- What the proofs stand on, in one text: Pc. -/
import Derived.Test.YtdfkcijholopoaaMgVtimeClips15
namespace Go.Proofs.Ytdfkcijholopoaa.Vm
open Go Go.RowKit
set_option maxRecDepth 10000
set_option linter.unusedSimpArgs false
set_option linter.unusedVariables false


theorem vc_mid {B N : Nat} {c : Code} {Q : Exit → St → Prop} {s : St} (I : St → Prop) (h1 : VC (B := B) N c (fun e s' => e = .normal ∧ ∃ s2, Fg B s' s2 ∧ I s2) s) (h2 : ∀ s2, I s2 → Q .normal s2) : VC (B := B) N c Q s := by
  refine vc_post (h1.mono ?_)
  rintro e s' ⟨rfl, s2, h3, h4⟩
  exact ⟨s2, h3, h2 s2 h4⟩
theorem vl_cut {N : Nat} {ops : Array Oper} {l : List Oper} {K : St → Prop} {t t' : Nat → Value} {h : Nat → Option Blk} {n : Nat} (hv : VL N ops l K ⟨t, h, n⟩) : VL N ops l K ⟨t, (St.mk t' h n).h, (St.mk t' h n).n⟩ := hv
theorem p89e {l : List Rn} {c : Nat} {sp : List Value} {x : Nat × Nat} (hl : l.length ≤ 900) (hc : l.length ≤ c) (hsp : plainL sp = true) (hq : okq 0 l = true) (hx : x = accV (topS none l)) (hb : ∃ r ∈ l, clB x r = true) : FC 89 [.pointer (some ⟨0, 0, none⟩), .pointer (some ⟨2, 0, none⟩)] 3 [(0, .cells [.slice (some ⟨1, 0, none⟩) l.length c] 55 true), (1, .cells (rws rc l ++ sp) 67 true), (2, .cells [.slice none 0 0] 61 true)] (fun v u => v = .int .i64 131 ∧ ∃ l2 : List Rn, l2.length = l.length ∧ (u = U0 l2 c sp ∨ ∃ Q c3 sp3, plainL sp3 = true ∧ u = U1 l2 c sp Q c3 sp3)) := by
  refine fc_mono (p89 hl hc hsp hq) ?_
  rw [← hx]
  rintro v u (⟨_, h1, h2⟩ | ⟨h0, _⟩)
  · exact ⟨h1, h2⟩
  · obtain ⟨r, h1, h2⟩ := hb
    rw [h0 r h1] at h2
    cases h2
theorem p89n {l : List Rn} {c : Nat} {sp : List Value} {x : Nat × Nat} (hl : l.length ≤ 900) (hc : l.length ≤ c) (hsp : plainL sp = true) (hq : okq 0 l = true) (hx : x = accV (topS none l)) (hb : ∀ r ∈ l, clB x r = false) (hn : clI x l = []) : FC 89 [.pointer (some ⟨0, 0, none⟩), .pointer (some ⟨2, 0, none⟩)] 3 [(0, .cells [.slice (some ⟨1, 0, none⟩) l.length c] 55 true), (1, .cells (rws rc l ++ sp) 67 true), (2, .cells [.slice none 0 0] 61 true)] (fun v u => v = .int .i64 0 ∧ u = [(0, .cells [.slice (some ⟨1, 0, none⟩) (clQ x l).length c] 55 true), (1, .cells (rws rc (clQ x l) ++ sp) 67 true), (2, .cells [.slice none 0 0] 61 true)]) := by
  refine fc_mono (p89 hl hc hsp hq) ?_
  rw [← hx]
  rintro v u (⟨⟨r, h1, h2⟩, _⟩ | ⟨_, h1, ⟨_, h2⟩ | ⟨h2, _⟩⟩)
  · rw [hb r h1] at h2; cases h2
  · exact ⟨h1, h2⟩
  · exact absurd hn h2
theorem p89s {l : List Rn} {c : Nat} {sp : List Value} {x : Nat × Nat} (hl : l.length ≤ 900) (hc : l.length ≤ c) (hsp : plainL sp = true) (hq : okq 0 l = true) (hx : x = accV (topS none l)) (hb : ∀ r ∈ l, clB x r = false) (hn : clI x l ≠ []) : FC 89 [.pointer (some ⟨0, 0, none⟩), .pointer (some ⟨2, 0, none⟩)] 3 [(0, .cells [.slice (some ⟨1, 0, none⟩) l.length c] 55 true), (1, .cells (rws rc l ++ sp) 67 true), (2, .cells [.slice none 0 0] 61 true)] (fun v u => v = .int .i64 0 ∧ ∃ c3 sp3, plainL sp3 = true ∧ u = [(0, .cells [.slice (some ⟨1, 0, none⟩) (clQ x l).length c] 55 true), (1, .cells (rws rc (clQ x l) ++ sp) 67 true), (2, .cells [.slice (some ⟨3, 0, none⟩) (clI x l).length c3] 61 true), (3, .cells (rws ic (clI x l) ++ sp3) 3 true)]) := by
  refine fc_mono (p89 hl hc hsp hq) ?_
  rw [← hx]
  rintro v u (⟨⟨r, h1, h2⟩, _⟩ | ⟨_, h1, ⟨h2, _⟩ | ⟨_, h2⟩⟩)
  · rw [hb r h1] at h2; cases h2
  · exact absurd h2 hn
  · exact ⟨h1, h2⟩
theorem again {l : List Rn} (hq : okq 0 l = true) {x : Nat × Nat} (hx : x = accV (topS none l)) (hb : ∀ r ∈ l, clB x r = false) :
    okq 0 (clQ x l) = true ∧ topS none (clQ x l) = topS none l ∧ clI x (clQ x l) = [] ∧ clQ x (clQ x l) = clQ x l ∧ ∀ r ∈ clQ x l, clB x r = false := by
  cases l with
  | nil => exact ⟨rfl, rfl, rfl, rfl, fun r hr => by cases hr⟩
  | cons a t =>
    obtain ⟨h1, h2⟩ := top_in hq (r := a) (by simp)
    rw [← hx] at h1 h2
    have hv : 0 < x.2 := (rt_w h2).1
    refine ⟨clQ_ok hq hb, (clQ_top hq h1).trans h1.symm, clI_twice hv _, clQ_twice hv _, fun r hr => ?_⟩
    obtain ⟨r0, _, rfl⟩ := List.mem_map.1 hr
    exact clB_clR hv r0
theorem clip4 (l : List Rn) : okq 0 l = false ∨ (okq 0 l = true ∧ ∃ r ∈ l, clB (accV (topS none l)) r = true) ∨ (okq 0 l = true ∧ (∀ r ∈ l, clB (accV (topS none l)) r = false) ∧ clI (accV (topS none l)) l = []) ∨
    (okq 0 l = true ∧ (∀ r ∈ l, clB (accV (topS none l)) r = false) ∧ clI (accV (topS none l)) l ≠ []) := by
  cases hq : okq 0 l
  · exact .inl rfl
  · right
    by_cases h : ∃ r ∈ l, clB (accV (topS none l)) r = true
    · exact .inl ⟨rfl, h⟩
    · right
      have hb : ∀ r ∈ l, clB (accV (topS none l)) r = false := fun r hr => by
        cases h2 : clB (accV (topS none l)) r
        · rfl
        · exact absurd ⟨r, hr, h2⟩ h
      by_cases hn : clI (accV (topS none l)) l = []
      · exact .inl ⟨rfl, hb, hn⟩
      · exact .inr ⟨rfl, hb, hn⟩
theorem tb2 {l : List Rn} (hq : okq 0 l = true) {x : Nat × Nat} (hx : x = accV (topS none l)) {tb : Bool} (htb : tb = (topS none l).isSome) : tb = false ∨ (tb = true ∧ rt x.1 x.2 = true) := by
  cases l with
  | nil => exact .inl htb
  | cons a t =>
    obtain ⟨h1, h2⟩ := top_in hq (r := a) (by simp)
    right
    rw [htb, h1, hx]
    exact ⟨rfl, h2⟩
theorem cmp_one {a b w : Nat} (h : b < a) (hw : 0 < w) : cmpW (a * w) (b * w) = 1 := by
  have := Nat.mul_lt_mul_of_pos_right h hw
  unfold cmpW
  rw [if_neg (by omega), if_neg (by omega)]
theorem cmp_zero (a : Nat) : cmpW a a = 0 := by simp [cmpW]
theorem sbo {h : Nat → Option Blk} {k : Nat} {ob ob' : Obj} (e : h k = some (.obj ob)) (ho : ob = ob') : Sb h k (.obj ob') := by subst ho; exact sb e
theorem take_next {S : List Int} {j : Nat} {n : Int} (h : S[j]? = some n) : mS (S.take j ++ [n]) = mS (S.take (j + 1)) := by rw [List.take_add_one, h]; rfl
theorem sf_own0 {h : Nat → Option Blk} {f : Nat → Nat × Nat} {k m n c : Nat} {m' : Nat} {t : TypeId} (e : h (f k).1 = some (.cells [.slice (some ⟨m', 0, none⟩) n c] t true)) (hm : (f m).1 = m') (h0 : (f m).2 = 0) (ho : (f k).2 = 0) : SbF h f k (.cells [.slice (some ⟨m, 0, none⟩) n c] t true) := by
  refine sf_own ?_ ho
  rw [e]
  simp only [renL, renV, hm, h0, Nat.add_zero]

theorem p7 (y : List Rn) (c : Nat) (hc : y.length ≤ c) : RO 7 [qv 0 y.length c] [(0, rws rc y)] (.bool true) := by
  refine ro_of _ 1 Try.func7 rfl Try.ntmps7 (by kernel_rfl) (by simp) rfl rfl (by simp) (by simp [rcs_plain]) ?_
  refine vc_seq ?_
  refine vc_go (by kernel_rfl) fun K hK => hK _ _ _ ?_
  clear hK K
  refine vc_seq ?_
  refine vc_seq ?_
  refine vc_reg (by kernel_rfl) fun K hK => ?_
  refine run_call (p38) rfl rfl rfl rfl ?_
  refine run_end (z := false) fun K' hK' => hK' _ _ _ (hK _ _ _ ?_)
  clear hK' K' hK K
  refine vc_cond (t := false) rfl (fun h => by cases h) (fun _ => ?_)
  refine vc_skip ?_
  refine vc_seq ?_
  refine vc_reg (by kernel_rfl) fun K hK => ?_
  refine run_n (z := false) 1 (fun K' hK' => hK' _ _ _ ?_) (by decide)
  clear hK' K'
  refine run_fc (fun k => (k, 0)) (p39 hc) (hasF ⟨sf_winp (rcs_plain y) rfl get_zero, trivial⟩ rfl) rfl rfl rfl rfl ⟨_, _, _, Nat.le_refl _, rfl, rfl⟩ ?_
  rintro _ _ ⟨c2, hlc, rfl, rfl⟩
  rw [renU_c (renB_p (spare_plain _ _)) renU_nil]
  have hl : (y.take 17).length ≤ 17 := take17 y
  generalize y.take 17 = l at *
  refine run_end (z := false) fun K' hK' => hK' _ _ _ (hK _ _ _ ?_)
  clear hK' K' hK K
  refine renF (fun k => if k = 0 then 4 else 3) [(3, .pointer (some ⟨0, 0, none⟩))] [(0, .cells [.slice (some ⟨1, 0, none⟩) l.length c2] 55 true), (1, .cells (rws rc l) 67 false)] 2 (by decide) (fun m hm => absurd hm (Nat.not_lt_zero m)) ⟨rfl, trivial⟩ ⟨sf_own rfl rfl, sf_winp (rcs_plain l) rfl get_zero_app, trivial⟩ rfl (bdH_b (by decide) rfl (bdH_c (by decide) (rcs_plain l) rfl)) rfl ?_
  refine vc_seq ?_
  have h40 := p40 l c2 (by omega)
  have h47 := p47 l c2 (by omega)
  obtain ⟨x, hx⟩ : ∃ x, x = accV (topQ l) := ⟨_, rfl⟩
  obtain ⟨tb, htb⟩ : ∃ tb, tb = (topQ l).isSome := ⟨_, rfl⟩
  rw [← hx, ← htb] at h40
  refine vc_reg (by kernel_rfl) fun K hK => ?_
  refine run_n (z := false) 1 (fun K' hK' => hK' _ _ _ ?_) (by decide)
  clear hK' K'
  refine run_ro (fun _ => (1, 0)) (h40) ?_ rfl rfl rfl rfl ?_
  · intro x hx
    simp only [List.mem_singleton] at hx
    subst hx
    exact ⟨_, _, _, rfl, fun i v hv => by rw [Nat.zero_add]; exact hv⟩
  refine run_end (z := false) fun K' hK' => hK' _ _ _ (hK _ _ _ ?_)
  clear hK' K' hK K
  refine renF (fun k => if k = 2 then 7 else k) [(3, .pointer (some ⟨0, 0, none⟩)), (4, .pointer (some ⟨2, 0, none⟩)), (5, .bool tb)] [(0, .cells [.slice (some ⟨1, 0, none⟩) l.length c2] 55 true), (1, .cells (rws rc l) 67 false), (2, .cells (frc x.1 x.2) 58 true)] 3 (by decide) (fun m hm => absurd hm (Nat.not_lt_zero m)) ⟨rfl, rfl, rfl, trivial⟩ ⟨sf_own rfl rfl, sf_winp (rcs_plain l) rfl get_zero, sf_ownp (by rfl) rfl rfl, trivial⟩ rfl (bdH_b (by decide) rfl (bdH_c (by decide) (rcs_plain l) (bdH_c (by decide) (by rfl) rfl))) rfl ?_
  refine vc_seq ?_
  rcases clip4 l with hq | ⟨hq, hb⟩ | ⟨hq, hb, hn⟩ | ⟨hq, hb, hn⟩
  · rw [chk1_no hq] at h47
    refine vc_regL (by kernel_rfl) fun K hK => ?_
    refine vl_pre 1 ?_
    refine run_end (z := false) fun K' hK' => hK' _ _ _ ?_
    clear hK' K'
    refine vl_inl (vs := [qv 1 l.length c2]) Try.func41 rfl Try.ntmps41 (by kernel_rfl) rfl rfl rfl (Nat.le_of_ble_eq_true rfl) rfl ?_
    refine vc_seq ?_
    refine vc_go (by kernel_rfl) fun K hK => hK _ _ _ ?_
    clear hK K
    refine vc_seq ?_
    refine vc_go (by kernel_rfl) fun K hK => hK _ _ _ ?_
    clear hK K
    refine vc_seq ?_
    refine vc_regL (by kernel_rfl) fun K hK => ?_
    refine vl_pre 2 ?_
    refine run_end (z := false) fun K' hK' => hK' _ _ _ ?_
    clear hK' K'
    refine vl_inl (vs := [qv 1 l.length c2, .func (.func 89) #[] #[.pointer (some ⟨5, 0, none⟩)]]) Try.func88 rfl Try.ntmps88 (by kernel_rfl) rfl rfl rfl (Nat.le_of_ble_eq_true rfl) rfl ?_
    refine vc_seq ?_
    refine vc_go (by kernel_rfl) fun K hK => hK _ _ _ ?_
    clear hK K
    refine vc_seq ?_
    refine vc_seq ?_
    refine vc_reg (by kernel_rfl) fun K hK => ?_
    refine run_n (z := false) 1 (fun K' hK' => hK' _ _ _ ?_) (by decide)
    clear hK' K'
    refine run_ro (fun _ => (1, 0)) (h47) ?_ rfl rfl rfl rfl ?_
    · intro x hx
      simp only [List.mem_singleton] at hx
      subst hx
      exact ⟨_, _, _, rfl, fun i v hv => by rw [Nat.zero_add]; exact hv⟩
    refine run_end (z := false) fun K' hK' => hK' _ _ _ (hK _ _ _ ?_)
    clear hK' K' hK K
    refine vc_seq ?_
    refine vc_go (by kernel_rfl) fun K hK => hK _ _ _ ?_
    clear hK K
    refine vc_cond (t := true) rfl (fun _ => ?_) (fun h => by cases h)
    refine vc_seq ?_
    refine vc_go (by kernel_rfl) fun K hK => hK _ _ _ ?_
    clear hK K
    refine vc_ret ⟨.inr rfl, ?_⟩
    refine ⟨.tuple #[.agg #[.slice none 0 0], .int .i64 200], rfl, vl_cut ?_⟩
    refine vl_rest ?_
    refine run_end (z := false) fun K' hK' => hK' _ _ _ (hK _ _ _ ?_)
    clear hK' K' hK K
    refine vc_seq ?_
    refine vc_seq ?_
    refine vc_go (by kernel_rfl) fun K hK => hK _ _ _ ?_
    clear hK K
    refine vc_cond (t := true) rfl (fun _ => ?_) (fun h => by cases h)
    refine vc_go (by kernel_rfl) fun K hK => hK _ _ _ ?_
    clear hK K
    refine vc_seq ?_
    refine vc_goD [(1, 3)] (by kernel_rfl) (by kernel_rfl) fun K hK => hK _ _ _ _ ?_
    clear hK K
    refine vc_ret ⟨.inr rfl, ?_⟩
    refine ⟨.tuple #[.agg #[.slice none 0 0], .slice none 0 0, .int .i64 200], rfl, vl_cut ?_⟩
    refine vl_rest ?_
    refine run_end (z := false) fun K' hK' => hK' _ _ _ (hK _ _ _ ?_)
    clear hK' K' hK K
    refine vc_seq ?_
    refine vc_seq ?_
    refine vc_go (by kernel_rfl) fun K hK => hK _ _ _ ?_
    clear hK K
    refine vc_cond (t := true) rfl (fun _ => ?_) (fun h => by cases h)
    refine vc_seq ?_
    refine vc_go (by kernel_rfl) fun K hK => hK _ _ _ ?_
    clear hK K
    exact vc_ret ⟨.inr rfl, rfl⟩
  · rw [topQ_yes hq] at hx htb
    rw [chk1_yes hq] at h47
    rw [← hx] at hb
    have h89 := fun c9 hc9 => p89e (l := l) (c := c9) (sp := zrow (c9 - l.length) z5) (by omega) hc9 (zrow_plain rfl _) hq hx hb
    refine vc_regL (by kernel_rfl) fun K hK => ?_
    refine vl_pre 1 ?_
    refine run_end (z := false) fun K' hK' => hK' _ _ _ ?_
    clear hK' K'
    refine vl_inl (vs := [qv 1 l.length c2]) Try.func41 rfl Try.ntmps41 (by kernel_rfl) rfl rfl rfl (Nat.le_of_ble_eq_true rfl) rfl ?_
    refine vc_seq ?_
    refine vc_go (by kernel_rfl) fun K hK => hK _ _ _ ?_
    clear hK K
    refine vc_seq ?_
    refine vc_go (by kernel_rfl) fun K hK => hK _ _ _ ?_
    clear hK K
    refine vc_seq ?_
    refine vc_regL (by kernel_rfl) fun K hK => ?_
    refine vl_pre 2 ?_
    refine run_end (z := false) fun K' hK' => hK' _ _ _ ?_
    clear hK' K'
    refine vl_inl (vs := [qv 1 l.length c2, .func (.func 89) #[] #[.pointer (some ⟨5, 0, none⟩)]]) Try.func88 rfl Try.ntmps88 (by kernel_rfl) rfl rfl rfl (Nat.le_of_ble_eq_true rfl) rfl ?_
    refine vc_seq ?_
    refine vc_go (by kernel_rfl) fun K hK => hK _ _ _ ?_
    clear hK K
    refine vc_seq ?_
    refine vc_seq ?_
    refine vc_reg (by kernel_rfl) fun K hK => ?_
    refine run_n (z := false) 1 (fun K' hK' => hK' _ _ _ ?_) (by decide)
    clear hK' K'
    refine run_ro (fun _ => (1, 0)) (h47) ?_ rfl rfl rfl rfl ?_
    · intro x hx
      simp only [List.mem_singleton] at hx
      subst hx
      exact ⟨_, _, _, rfl, fun i v hv => by rw [Nat.zero_add]; exact hv⟩
    refine run_end (z := false) fun K' hK' => hK' _ _ _ (hK _ _ _ ?_)
    clear hK' K' hK K
    refine vc_seq ?_
    refine vc_go (by kernel_rfl) fun K hK => hK _ _ _ ?_
    clear hK K
    refine vc_cond (t := false) rfl (fun h => by cases h) (fun _ => ?_)
    refine vc_skip ?_
    refine vc_seq ?_
    refine vc_reg (by kernel_rfl) fun K hK => ?_
    refine run_n (z := false) 2 (fun K' hK' => hK' _ _ _ ?_) (by decide)
    clear hK' K'
    refine run_fc (fun k => (1, 0)) (p118 c2 (by omega)) (hasF ⟨sf_winp (rcs_plain l) rfl get_zero, trivial⟩ rfl) rfl rfl rfl rfl ⟨_, _, l.length, Nat.le_refl _, rfl, rfl⟩ ?_
    rintro _ _ ⟨c9, hc9, rfl, rfl⟩
    rw [renU_c (renB_p (spare_plain l _)) renU_nil]
    refine run_end (z := false) fun K' hK' => hK' _ _ _ (hK _ _ _ ?_)
    clear hK' K' hK K
    refine vc_seq ?_
    refine vc_seq ?_
    refine vc_reg (by kernel_rfl) fun K hK => ?_
    refine run_n (z := false) 1 (fun K' hK' => hK' _ _ _ ?_) (by decide)
    clear hK' K'
    refine run_fc (fun k => if k = 0 then (12, 0) else if k = 1 then (10, 0) else (5, 0)) (h89 c9 hc9) (hasF ⟨sf_own rfl rfl, sf_ownp (spare_plain l _) rfl rfl, sf_own rfl rfl, trivial⟩ rfl) rfl rfl rfl rfl ⟨_, _, rfl, l, rfl, .inl rfl⟩ ?_
    rintro _ _ ⟨rfl, l2, hl2, rfl | ⟨Q, c3, sp3, hp3, rfl⟩⟩
    · unfold U0
      rw [renU_c rfl (renU_c (renB_p (plainL_append (rcs_plain _) (zrow_plain rfl _))) (renU_c rfl renU_nil))]
      refine run_end (z := false) fun K' hK' => hK' _ _ _ (hK _ _ _ ?_)
      clear hK' K' hK K
      refine vc_seq ?_
      refine vc_go (by kernel_rfl) fun K hK => hK _ _ _ ?_
      clear hK K
      refine vc_cond (t := true) rfl (fun _ => ?_) (fun h => by cases h)
      refine vc_seq ?_
      refine vc_go (by kernel_rfl) fun K hK => hK _ _ _ ?_
      clear hK K
      refine vc_ret ⟨.inr rfl, ?_⟩
      refine ⟨.tuple #[.agg #[.slice none 0 0], .int .i64 131], rfl, vl_cut ?_⟩
      refine vl_rest ?_
      refine run_end (z := false) fun K' hK' => hK' _ _ _ (hK _ _ _ ?_)
      clear hK' K' hK K
      refine vc_seq ?_
      refine vc_seq ?_
      refine vc_go (by kernel_rfl) fun K hK => hK _ _ _ ?_
      clear hK K
      refine vc_cond (t := true) rfl (fun _ => ?_) (fun h => by cases h)
      refine vc_go (by kernel_rfl) fun K hK => hK _ _ _ ?_
      clear hK K
      refine vc_seq ?_
      refine vc_goD [(1, 3)] (by kernel_rfl) (by kernel_rfl) fun K hK => hK _ _ _ _ ?_
      clear hK K
      refine vc_ret ⟨.inr rfl, ?_⟩
      refine ⟨.tuple #[.agg #[.slice none 0 0], .slice none 0 0, .int .i64 131], rfl, vl_cut ?_⟩
      refine vl_rest ?_
      refine run_end (z := false) fun K' hK' => hK' _ _ _ (hK _ _ _ ?_)
      clear hK' K' hK K
      refine vc_seq ?_
      refine vc_seq ?_
      refine vc_go (by kernel_rfl) fun K hK => hK _ _ _ ?_
      clear hK K
      refine vc_cond (t := true) rfl (fun _ => ?_) (fun h => by cases h)
      refine vc_seq ?_
      refine vc_go (by kernel_rfl) fun K hK => hK _ _ _ ?_
      clear hK K
      exact vc_ret ⟨.inr rfl, rfl⟩
    · unfold U1
      rw [renU_c rfl (renU_c (renB_p (plainL_append (rcs_plain _) (zrow_plain rfl _))) (renU_c rfl (renU_c (renB_p (plainL_append (ics_plain _) hp3)) renU_nil)))]
      refine run_end (z := false) fun K' hK' => hK' _ _ _ (hK _ _ _ ?_)
      clear hK' K' hK K
      refine vc_seq ?_
      refine vc_go (by kernel_rfl) fun K hK => hK _ _ _ ?_
      clear hK K
      refine vc_cond (t := true) rfl (fun _ => ?_) (fun h => by cases h)
      refine vc_seq ?_
      refine vc_go (by kernel_rfl) fun K hK => hK _ _ _ ?_
      clear hK K
      refine vc_ret ⟨.inr rfl, ?_⟩
      refine ⟨.tuple #[.agg #[.slice none 0 0], .int .i64 131], rfl, vl_cut ?_⟩
      refine vl_rest ?_
      refine run_end (z := false) fun K' hK' => hK' _ _ _ (hK _ _ _ ?_)
      clear hK' K' hK K
      refine vc_seq ?_
      refine vc_seq ?_
      refine vc_go (by kernel_rfl) fun K hK => hK _ _ _ ?_
      clear hK K
      refine vc_cond (t := true) rfl (fun _ => ?_) (fun h => by cases h)
      refine vc_go (by kernel_rfl) fun K hK => hK _ _ _ ?_
      clear hK K
      refine vc_seq ?_
      refine vc_goD [(1, 3)] (by kernel_rfl) (by kernel_rfl) fun K hK => hK _ _ _ _ ?_
      clear hK K
      refine vc_ret ⟨.inr rfl, ?_⟩
      refine ⟨.tuple #[.agg #[.slice none 0 0], .slice none 0 0, .int .i64 131], rfl, vl_cut ?_⟩
      refine vl_rest ?_
      refine run_end (z := false) fun K' hK' => hK' _ _ _ (hK _ _ _ ?_)
      clear hK' K' hK K
      refine vc_seq ?_
      refine vc_seq ?_
      refine vc_go (by kernel_rfl) fun K hK => hK _ _ _ ?_
      clear hK K
      refine vc_cond (t := true) rfl (fun _ => ?_) (fun h => by cases h)
      refine vc_seq ?_
      refine vc_go (by kernel_rfl) fun K hK => hK _ _ _ ?_
      clear hK K
      exact vc_ret ⟨.inr rfl, rfl⟩
  · rw [topQ_yes hq] at hx htb
    rw [chk1_yes hq] at h47
    rw [← hx] at hb hn
    have h89 := fun c9 hc9 => p89n (l := l) (c := c9) (sp := zrow (c9 - l.length) z5) (by omega) hc9 (zrow_plain rfl _) hq hx hb hn
    have htb2 := tb2 hq hx htb
    obtain ⟨hq2, htop2, hI2, hQ2, hb2⟩ := again hq hx hb
    obtain ⟨l2, hl2⟩ : ∃ l2, l2 = clQ x l := ⟨_, rfl⟩
    have hlen : l2.length = l.length := by rw [hl2, clQ_len]
    have hSl := clI_len (x := x) (l := l)
    simp only [← hl2] at h89
    rw [← hl2] at hq2 htop2 hI2 hQ2 hb2
    have h47b := fun c => p47 l2 c (by omega)
    simp only [chk1_yes hq2] at h47b
    have h40b := fun c => p40 l2 c (by omega)
    simp only [topQ_yes hq2, htop2, ← hx, ← htb] at h40b
    have hx2 : x = accV (topS none l2) := by rw [htop2]; exact hx
    have h89b := fun c9 hc9 => p89n (l := l2) (c := c9) (sp := zrow (c9 - l2.length) z5) (by omega) hc9 (zrow_plain rfl _) hq2 hx2 hb2 hI2
    simp only [hQ2] at h89b
    refine vc_regL (by kernel_rfl) fun K hK => ?_
    refine vl_pre 1 ?_
    refine run_end (z := false) fun K' hK' => hK' _ _ _ ?_
    clear hK' K'
    refine vl_inl (vs := [qv 1 l.length c2]) Try.func41 rfl Try.ntmps41 (by kernel_rfl) rfl rfl rfl (Nat.le_of_ble_eq_true rfl) rfl ?_
    refine vc_seq ?_
    refine vc_go (by kernel_rfl) fun K hK => hK _ _ _ ?_
    clear hK K
    refine vc_seq ?_
    refine vc_go (by kernel_rfl) fun K hK => hK _ _ _ ?_
    clear hK K
    refine vc_seq ?_
    refine vc_regL (by kernel_rfl) fun K hK => ?_
    refine vl_pre 2 ?_
    refine run_end (z := false) fun K' hK' => hK' _ _ _ ?_
    clear hK' K'
    refine vl_inl (vs := [qv 1 l.length c2, .func (.func 89) #[] #[.pointer (some ⟨5, 0, none⟩)]]) Try.func88 rfl Try.ntmps88 (by kernel_rfl) rfl rfl rfl (Nat.le_of_ble_eq_true rfl) rfl ?_
    refine vc_seq ?_
    refine vc_go (by kernel_rfl) fun K hK => hK _ _ _ ?_
    clear hK K
    refine vc_seq ?_
    refine vc_seq ?_
    refine vc_reg (by kernel_rfl) fun K hK => ?_
    refine run_n (z := false) 1 (fun K' hK' => hK' _ _ _ ?_) (by decide)
    clear hK' K'
    refine run_ro (fun _ => (1, 0)) (h47) ?_ rfl rfl rfl rfl ?_
    · intro x hx
      simp only [List.mem_singleton] at hx
      subst hx
      exact ⟨_, _, _, rfl, fun i v hv => by rw [Nat.zero_add]; exact hv⟩
    refine run_end (z := false) fun K' hK' => hK' _ _ _ (hK _ _ _ ?_)
    clear hK' K' hK K
    refine vc_seq ?_
    refine vc_go (by kernel_rfl) fun K hK => hK _ _ _ ?_
    clear hK K
    refine vc_cond (t := false) rfl (fun h => by cases h) (fun _ => ?_)
    refine vc_skip ?_
    refine vc_seq ?_
    refine vc_reg (by kernel_rfl) fun K hK => ?_
    refine run_n (z := false) 2 (fun K' hK' => hK' _ _ _ ?_) (by decide)
    clear hK' K'
    refine run_fc (fun k => (1, 0)) (p118 c2 (by omega)) (hasF ⟨sf_winp (rcs_plain l) rfl get_zero, trivial⟩ rfl) rfl rfl rfl rfl ⟨_, _, l.length, Nat.le_refl _, rfl, rfl⟩ ?_
    rintro _ _ ⟨c9, hc9, rfl, rfl⟩
    rw [renU_c (renB_p (spare_plain l _)) renU_nil]
    refine run_end (z := false) fun K' hK' => hK' _ _ _ (hK _ _ _ ?_)
    clear hK' K' hK K
    refine vc_seq ?_
    refine vc_seq ?_
    refine vc_reg (by kernel_rfl) fun K hK => ?_
    refine run_n (z := false) 1 (fun K' hK' => hK' _ _ _ ?_) (by decide)
    clear hK' K'
    refine run_fc (fun k => if k = 0 then (12, 0) else if k = 1 then (10, 0) else (5, 0)) (h89 c9 hc9) (hasF ⟨sf_own rfl rfl, sf_ownp (spare_plain l _) rfl rfl, sf_own rfl rfl, trivial⟩ rfl) rfl rfl rfl rfl ⟨_, _, rfl, rfl⟩ ?_
    rintro _ _ ⟨rfl, rfl⟩
    rw [renU_c rfl (renU_c (renB_p (plainL_append (rcs_plain _) (zrow_plain rfl _))) (renU_c rfl renU_nil))]
    refine run_end (z := false) fun K' hK' => hK' _ _ _ (hK _ _ _ ?_)
    clear hK' K' hK K
    refine vc_seq ?_
    refine vc_go (by kernel_rfl) fun K hK => hK _ _ _ ?_
    clear hK K
    refine vc_cond (t := false) rfl (fun h => by cases h) (fun _ => ?_)
    refine vc_skip ?_
    refine vc_seq ?_
    refine vc_go (by kernel_rfl) fun K hK => hK _ _ _ ?_
    clear hK K
    refine vc_ret ⟨.inr rfl, ?_⟩
    refine ⟨.tuple #[.agg #[.slice (some ⟨10, 0, none⟩) l2.length c9], .int .i64 0], rfl, vl_cut ?_⟩
    refine vl_rest ?_
    refine run_end (z := false) fun K' hK' => hK' _ _ _ (hK _ _ _ ?_)
    clear hK' K' hK K
    refine vc_seq ?_
    refine vc_seq ?_
    refine vc_go (by kernel_rfl) fun K hK => hK _ _ _ ?_
    clear hK K
    refine vc_cond (t := false) rfl (fun h => by cases h) (fun _ => ?_)
    refine vc_skip ?_
    refine vc_seq ?_
    refine vc_goD [(1, 3)] (by kernel_rfl) (by kernel_rfl) fun K hK => hK _ _ _ _ ?_
    clear hK K
    refine vc_ret ⟨.inr rfl, ?_⟩
    refine ⟨.tuple #[.agg #[.slice (some ⟨10, 0, none⟩) l2.length c9], .slice none 0 0, .int .i64 0], rfl, vl_cut ?_⟩
    refine vl_rest ?_
    refine run_end (z := false) fun K' hK' => hK' _ _ _ (hK _ _ _ ?_)
    clear hK' K' hK K
    refine renF (fun k => if k = 3 then 21 else if k = 4 then 10 else k) [(3, .pointer (some ⟨0, 0, none⟩)), (4, .pointer (some ⟨2, 0, none⟩)), (5, .bool tb), (6, .pointer (some ⟨3, 0, none⟩)), (7, .slice none 0 0), (8, .int .i64 0)] [(0, .cells [.slice (some ⟨1, 0, none⟩) l.length c2] 55 true), (1, .cells (rws rc l) 67 false), (2, .cells (frc x.1 x.2) 58 true), (3, .cells [.slice (some ⟨4, 0, none⟩) l2.length c9] 55 true), (4, .cells (rws rc l2) 67 false)] 5 (by decide) (fun m hm => absurd hm (Nat.not_lt_zero m)) ⟨rfl, rfl, rfl, rfl, rfl, rfl, trivial⟩ ⟨sf_own rfl rfl, sf_winp (rcs_plain l) rfl get_zero, sf_ownp (by rfl) rfl rfl, sf_own rfl rfl, sf_winp (rcs_plain l2) rfl get_zero_app, trivial⟩ rfl (bdH_b (by decide) rfl (bdH_c (by decide) (rcs_plain l) (bdH_c (by decide) (by rfl) (bdH_b (by decide) rfl (bdH_c (by decide) (rcs_plain l2) rfl))))) rfl ?_
    refine vc_seq ?_
    refine vc_seq ?_
    refine vc_go (by kernel_rfl) fun K hK => hK _ _ _ ?_
    clear hK K
    refine vc_cond (t := false) rfl (fun h => by cases h) (fun _ => ?_)
    refine vc_skip ?_
    refine vc_seq ?_
    refine vc_reg (by kernel_rfl) fun K hK => ?_
    refine run_n (z := false) 1 (fun K' hK' => hK' _ _ _ ?_) (by decide)
    clear hK' K'
    refine run_ro (fun _ => (4, 0)) ((h40b c9)) ?_ rfl rfl rfl rfl ?_
    · intro x hx
      simp only [List.mem_singleton] at hx
      subst hx
      exact ⟨_, _, _, rfl, fun i v hv => by rw [Nat.zero_add]; exact hv⟩
    refine run_end (z := false) fun K' hK' => hK' _ _ _ (hK _ _ _ ?_)
    clear hK' K' hK K
    refine vc_seq ?_
    refine vc_mid (fun s => s = can [(3, .pointer (some ⟨0, 0, none⟩)), (4, .pointer (some ⟨2, 0, none⟩)), (6, .pointer (some ⟨3, 0, none⟩)), (7, .slice none 0 0)] [(0, .cells [.slice (some ⟨1, 0, none⟩) l.length c2] 55 true), (1, .cells (rws rc l) 67 false), (2, .cells (frc x.1 x.2) 58 true), (3, .cells [.slice (some ⟨4, 0, none⟩) l2.length c9] 55 true), (4, .cells (rws rc l2) 67 false)] 5) ?_ ?_
    · skip
      refine vc_seq ?_
      rcases htb2 with rfl | ⟨rfl, hxx⟩
      · skip
        refine vc_reg (by kernel_rfl) fun K hK => ?_
        refine run_n (z := false) 6 (fun K' hK' => hK' _ _ _ ?_) (by decide)
        clear hK' K'
        refine vgo_known 54 (b := false) (rfl) ?_
        refine run_end (z := false) fun K' hK' => hK' _ _ _ (hK _ _ _ ?_)
        clear hK' K' hK K
        refine vc_cond (t := false) rfl (fun h => by cases h) (fun _ => ?_)
        refine vc_skip ?_
        exact ⟨rfl, _, fg_focus [(3, .pointer (some ⟨0, 0, none⟩)), (4, .pointer (some ⟨2, 0, none⟩)), (6, .pointer (some ⟨3, 0, none⟩)), (7, .slice none 0 0)] [(0, .cells [.slice (some ⟨1, 0, none⟩) l.length c2] 55 true), (1, .cells (rws rc l) 67 false), (2, .cells (frc x.1 x.2) 58 true), (3, .cells [.slice (some ⟨4, 0, none⟩) l2.length c9] 55 true), (4, .cells (rws rc l2) 67 false)] 5 (by decide) ⟨rfl, rfl, rfl, rfl, trivial⟩ ⟨sb rfl, sb rfl, sb rfl, sb rfl, sb rfl, trivial⟩ rfl (bdH_b (by decide) rfl (bdH_c (by decide) (rcs_plain l) (bdH_c (by decide) (by rfl) (bdH_b (by decide) rfl (bdH_c (by decide) (rcs_plain l2) rfl))))), rfl⟩
      · have h42x := p42y hxx hxx
        rw [cmp_zero] at h42x
        refine vc_reg (by kernel_rfl) fun K hK => ?_
        refine run_n (z := false) 8 (fun K' hK' => hK' _ _ _ ?_) (by decide)
        clear hK' K'
        refine run_call (h42x) rfl rfl rfl rfl ?_
        refine run_end (z := false) fun K' hK' => hK' _ _ _ (hK _ _ _ ?_)
        clear hK' K' hK K
        refine vc_cond (t := false) rfl (fun h => by cases h) (fun _ => ?_)
        refine vc_skip ?_
        exact ⟨rfl, _, fg_focus [(3, .pointer (some ⟨0, 0, none⟩)), (4, .pointer (some ⟨2, 0, none⟩)), (6, .pointer (some ⟨3, 0, none⟩)), (7, .slice none 0 0)] [(0, .cells [.slice (some ⟨1, 0, none⟩) l.length c2] 55 true), (1, .cells (rws rc l) 67 false), (2, .cells (frc x.1 x.2) 58 true), (3, .cells [.slice (some ⟨4, 0, none⟩) l2.length c9] 55 true), (4, .cells (rws rc l2) 67 false)] 5 (by decide) ⟨rfl, rfl, rfl, rfl, trivial⟩ ⟨sb rfl, sb rfl, sb rfl, sb rfl, sb rfl, trivial⟩ rfl (bdH_b (by decide) rfl (bdH_c (by decide) (rcs_plain l) (bdH_c (by decide) (by rfl) (bdH_b (by decide) rfl (bdH_c (by decide) (rcs_plain l2) rfl))))), rfl⟩
    · skip
      rintro s2 rfl
      refine vc_seq ?_
      refine vc_reg (by kernel_rfl) fun K hK => ?_
      refine run_sp (sp_mkMap rfl) rfl rfl rfl ⟨_, _, rfl, rfl⟩ ?_
      rintro _ _ ⟨rfl, rfl⟩
      refine run_end (z := false) fun K' hK' => hK' _ _ _ (hK _ _ _ ?_)
      clear hK' K' hK K
      refine vc_seq ?_
      refine vc_seq ?_
      refine vc_go (by kernel_rfl) fun K hK => hK _ _ _ ?_
      clear hK K
      refine vc_block ?_
      refine vc_rounds 1 ?_
      refine vc_seq ?_
      refine vc_go (by kernel_rfl) fun K hK => hK _ _ _ ?_
      clear hK K
      refine vc_seq ?_
      refine vc_cond (t := false) rfl (fun h => by cases h) (fun _ => ?_)
      refine vc_exit ?_
      refine vc_seq ?_
      refine vc_seq ?_
      refine vc_go (by kernel_rfl) fun K hK => hK _ _ _ ?_
      clear hK K
      refine vc_block ?_
      refine vc_loopF (fun n s => ∃ i : Nat, n = l2.length - i ∧ i ≤ l2.length ∧ s = can [(3, .pointer (some ⟨0, 0, none⟩)), (4, .pointer (some ⟨2, 0, none⟩)), (6, .pointer (some ⟨3, 0, none⟩)), (11, .map (some 5)), (72, .slice (some ⟨4, 0, none⟩) l2.length c9), (73, .int .i64 (l2.length : Int)), (74, .int .i64 ((i : Nat) : Int))] [(0, .cells [.slice (some ⟨1, 0, none⟩) l.length c2] 55 true), (1, .cells (rws rc l) 67 false), (2, .cells (frc x.1 x.2) 58 true), (3, .cells [.slice (some ⟨4, 0, none⟩) l2.length c9] 55 true), (4, .cells (rws rc l2) 67 false), (5, .obj (mS []))] 6) l2.length ?_ ?_
      · exact ⟨_, fg_focus [(3, .pointer (some ⟨0, 0, none⟩)), (4, .pointer (some ⟨2, 0, none⟩)), (6, .pointer (some ⟨3, 0, none⟩)), (11, .map (some 5)), (72, .slice (some ⟨4, 0, none⟩) l2.length c9), (73, .int .i64 (l2.length : Int)), (74, .int .i64 ((0 : Nat) : Int))] [(0, .cells [.slice (some ⟨1, 0, none⟩) l.length c2] 55 true), (1, .cells (rws rc l) 67 false), (2, .cells (frc x.1 x.2) 58 true), (3, .cells [.slice (some ⟨4, 0, none⟩) l2.length c9] 55 true), (4, .cells (rws rc l2) 67 false), (5, .obj (mS []))] 6 (by decide) ⟨rfl, rfl, rfl, rfl, rfl, rfl, rfl, trivial⟩ ⟨sb rfl, sb rfl, sb rfl, sb rfl, sb rfl, sb rfl, trivial⟩ rfl (bdH_b (by decide) rfl (bdH_c (by decide) (rcs_plain l) (bdH_c (by decide) (by rfl) (bdH_b (by decide) rfl (bdH_c (by decide) (rcs_plain l2) (bdH_b (by decide) rfl rfl)))))), 0, rfl, Nat.zero_le _, rfl⟩
      · rintro n s ⟨i, hn3, hi, rfl⟩
        refine vc_seq ?_
        refine vc_go (by kernel_rfl) fun K hK => hK _ _ _ ?_
        clear hK K
        refine vc_seq ?_
        refine vc_cond rfl (fun c1 => ?_) (fun c1 => ?_)
        · -- cond 8 t75 true
          refine vc_skip ?_
          refine vc_seq ?_
          refine vc_block ?_
          refine vc_seq ?_
          have hlt := len_le c1
          have hlt1 : i < l.length := by rw [← hlen]; exact hlt
          obtain ⟨r, hr⟩ : ∃ r, l[i]? = some r := ⟨l[i], List.getElem?_eq_getElem hlt1⟩
          have hrl := List.mem_of_getElem? hr
          obtain ⟨_, hxr⟩ := top_in hq hrl
          rw [← hx] at hxr
          have hrr := okR_rt (okq_mem hq r hrl)
          have h43 := p43 l c2 r.id (by omega)
          rw [(at_of hq hr).2.2] at h43
          simp only [Option.getD_some, Option.isSome_some] at h43
          have hmem := clI_mem (x := x) hq hr
          rw [hn] at hmem
          have hM : l2[i]? = some (clR x r) := by rw [hl2]; exact clQ_get hr
          have h44r := p44y (s := SLK) hrr hxr (by decide)
          cases hg : clG x r
          · rw [clR_no hg] at hM
            rw [hg] at hmem
            rw [show bh r.n r.w x.1 x.2 SLK = false from hg] at h44r
            refine vc_reg (by kernel_rfl) fun K hK => ?_
            refine run_op (vex_ixs (j := i) rfl rfl rfl hlt rfl rfl) rfl ?_
            refine run_rd (vex_ldr rc_len (j := 0) (i := i) (d := rc r) rfl (Nat.zero_add _) rfl (rws_win rc l2) rfl hM (by decide) rfl) rfl ?_
            refine run_end (z := false) fun K' hK' => hK' _ _ _ (hK _ _ _ ?_)
            clear hK' K' hK K
            refine vc_seq ?_
            refine vc_reg (by kernel_rfl) fun K hK => ?_
            refine run_n (z := false) 3 (fun K' hK' => hK' _ _ _ ?_) (by decide)
            clear hK' K'
            refine run_ro (fun _ => (1, 0)) (h43) ?_ rfl rfl rfl rfl ?_
            · intro x hx
              simp only [List.mem_singleton] at hx
              subst hx
              exact ⟨_, _, _, rfl, fun i v hv => by rw [Nat.zero_add]; exact hv⟩
            refine run_end (z := false) fun K' hK' => hK' _ _ _ (hK _ _ _ ?_)
            clear hK' K' hK K
            refine vc_seq ?_
            refine vc_regD [(12, 14), (12, 15), (11, 16), (12, 16)] (by kernel_rfl) (by kernel_rfl) fun K hK => ?_
            refine runD_n (z := false) 6 (fun K' hK' => hK' _ _ _ _ ?_) (by decide)
            clear hK' K'
            refine runD_call (h44r) rfl rfl rfl rfl ?_
            refine runD_n (z := false) 5 (fun K' hK' => hK' _ _ _ _ ?_) (by decide)
            clear hK' K'
            refine runD_rd (vex_look rfl rfl rfl hmem) rfl rfl ?_
            refine runD_n (z := false) 3 (fun K' hK' => hK' _ _ _ _ ?_) (by decide)
            clear hK' K'
            refine runD_call (h44r) rfl rfl rfl rfl ?_
            refine runD_n (z := false) 6 (fun K' hK' => hK' _ _ _ _ ?_) (by decide)
            clear hK' K'
            refine runD_rd (vex_look rfl rfl rfl hmem) rfl rfl ?_
            refine runD_n (z := false) 8 (fun K' hK' => hK' _ _ _ _ ?_) (by decide)
            clear hK' K'
            refine W_known 116 (b := false) (bb (by rw [rn_beq]; simp)) ?_
            refine runD_n (z := false) 3 (fun K' hK' => hK' _ _ _ _ ?_) (by decide)
            clear hK' K'
            refine runD_rd (vex_look rfl rfl rfl hmem) rfl rfl ?_
            refine runD_n (z := false) 1 (fun K' hK' => hK' _ _ _ _ ?_) (by decide)
            clear hK' K'
            refine W_known 121 (b := false) (rfl) ?_
            refine runD_end (z := false) fun K' hK' => hK' _ _ _ _ (hK _ _ _ ?_)
            clear hK' K' hK K
            refine vc_cond (t := false) rfl (fun h => by cases h) (fun _ => ?_)
            refine vc_skip ?_
            refine vc_go (by kernel_rfl) fun K hK => hK _ _ _ ?_
            clear hK K
            exact ⟨_, fg_focus [(3, .pointer (some ⟨0, 0, none⟩)), (4, .pointer (some ⟨2, 0, none⟩)), (6, .pointer (some ⟨3, 0, none⟩)), (11, .map (some 5)), (72, .slice (some ⟨4, 0, none⟩) l2.length c9), (73, .int .i64 (l2.length : Int)), (74, .int .i64 ((i + 1 : Nat) : Int))] [(0, .cells [.slice (some ⟨1, 0, none⟩) l.length c2] 55 true), (1, .cells (rws rc l) 67 false), (2, .cells (frc x.1 x.2) 58 true), (3, .cells [.slice (some ⟨4, 0, none⟩) l2.length c9] 55 true), (4, .cells (rws rc l2) 67 false), (5, .obj (mS []))] 6 (by decide) ⟨rfl, rfl, rfl, rfl, rfl, rfl, ii (wrapI (by omega) (by omega)), trivial⟩ ⟨sb rfl, sb rfl, sb rfl, sb rfl, sb rfl, sb rfl, trivial⟩ rfl (bdH_b (by decide) rfl (bdH_c (by decide) (rcs_plain l) (bdH_c (by decide) (by rfl) (bdH_b (by decide) rfl (bdH_c (by decide) (rcs_plain l2) (bdH_b (by decide) rfl rfl)))))), l2.length - (i + 1), by omega, i + 1, rfl, hlt, rfl⟩
          · rw [clR_yes hg] at hM
            rw [hg] at hmem
            rw [show bh r.n r.w x.1 x.2 SLK = true from hg] at h44r
            have hF := clB_no hg (hb r hrl)
            have hFr : rt (farN x.1 x.2 r.w) r.w = true := rt_mk (rt_wt hrr) hF
            have h44 := p44y (s := SLK) hFr hxr (by decide)
            rw [far_not (rt_w hxr).1] at h44
            have h42 := p42y hFr hrr
            rw [cmp_one (far_up (rt_w hxr).1 hg) (rt_w hrr).1] at h42
            refine vc_reg (by kernel_rfl) fun K hK => ?_
            refine run_op (vex_ixs (j := i) rfl rfl rfl hlt rfl rfl) rfl ?_
            refine run_rd (vex_ldr rc_len (j := 0) (i := i) (d := rc ({ r with n := farN x.1 x.2 r.w } : Rn)) rfl (Nat.zero_add _) rfl (rws_win rc l2) rfl hM (by decide) rfl) rfl ?_
            refine run_end (z := false) fun K' hK' => hK' _ _ _ (hK _ _ _ ?_)
            clear hK' K' hK K
            refine vc_seq ?_
            refine vc_reg (by kernel_rfl) fun K hK => ?_
            refine run_n (z := false) 3 (fun K' hK' => hK' _ _ _ ?_) (by decide)
            clear hK' K'
            refine run_ro (fun _ => (1, 0)) (h43) ?_ rfl rfl rfl rfl ?_
            · intro x hx
              simp only [List.mem_singleton] at hx
              subst hx
              exact ⟨_, _, _, rfl, fun i v hv => by rw [Nat.zero_add]; exact hv⟩
            refine run_end (z := false) fun K' hK' => hK' _ _ _ (hK _ _ _ ?_)
            clear hK' K' hK K
            refine vc_seq ?_
            refine vc_regD [(12, 14), (12, 15), (11, 16), (12, 16)] (by kernel_rfl) (by kernel_rfl) fun K hK => ?_
            refine runD_n (z := false) 6 (fun K' hK' => hK' _ _ _ _ ?_) (by decide)
            clear hK' K'
            refine runD_call (h44) rfl rfl rfl rfl ?_
            refine runD_n (z := false) 5 (fun K' hK' => hK' _ _ _ _ ?_) (by decide)
            clear hK' K'
            refine runD_rd (vex_look rfl rfl rfl hmem) rfl rfl ?_
            refine runD_n (z := false) 3 (fun K' hK' => hK' _ _ _ _ ?_) (by decide)
            clear hK' K'
            refine runD_call (h44r) rfl rfl rfl rfl ?_
            refine runD_n (z := false) 6 (fun K' hK' => hK' _ _ _ _ ?_) (by decide)
            clear hK' K'
            refine runD_rd (vex_look rfl rfl rfl hmem) rfl rfl ?_
            refine runD_n (z := false) 11 (fun K' hK' => hK' _ _ _ _ ?_) (by decide)
            clear hK' K'
            refine runD_rd (vex_look rfl rfl rfl hmem) rfl rfl ?_
            refine runD_n (z := false) 5 (fun K' hK' => hK' _ _ _ _ ?_) (by decide)
            clear hK' K'
            refine runD_call (h42) rfl rfl rfl rfl ?_
            refine runD_end (z := false) fun K' hK' => hK' _ _ _ _ (hK _ _ _ ?_)
            clear hK' K' hK K
            refine vc_cond (t := false) rfl (fun h => by cases h) (fun _ => ?_)
            refine vc_skip ?_
            refine vc_go (by kernel_rfl) fun K hK => hK _ _ _ ?_
            clear hK K
            exact ⟨_, fg_focus [(3, .pointer (some ⟨0, 0, none⟩)), (4, .pointer (some ⟨2, 0, none⟩)), (6, .pointer (some ⟨3, 0, none⟩)), (11, .map (some 5)), (72, .slice (some ⟨4, 0, none⟩) l2.length c9), (73, .int .i64 (l2.length : Int)), (74, .int .i64 ((i + 1 : Nat) : Int))] [(0, .cells [.slice (some ⟨1, 0, none⟩) l.length c2] 55 true), (1, .cells (rws rc l) 67 false), (2, .cells (frc x.1 x.2) 58 true), (3, .cells [.slice (some ⟨4, 0, none⟩) l2.length c9] 55 true), (4, .cells (rws rc l2) 67 false), (5, .obj (mS []))] 6 (by decide) ⟨rfl, rfl, rfl, rfl, rfl, rfl, ii (wrapI (by omega) (by omega)), trivial⟩ ⟨sb rfl, sb rfl, sb rfl, sb rfl, sb rfl, sb rfl, trivial⟩ rfl (bdH_b (by decide) rfl (bdH_c (by decide) (rcs_plain l) (bdH_c (by decide) (by rfl) (bdH_b (by decide) rfl (bdH_c (by decide) (rcs_plain l2) (bdH_b (by decide) rfl rfl)))))), l2.length - (i + 1), by omega, i + 1, rfl, hlt, rfl⟩
        · -- cond 8 t75 false
          refine vc_exit ?_
          refine vc_seq ?_
          refine vc_regL (by kernel_rfl) fun K hK => ?_
          refine vl_pre 1 ?_
          refine run_end (z := false) fun K' hK' => hK' _ _ _ ?_
          clear hK' K'
          refine vl_inl (vs := [qv 4 l2.length c9]) Try.func41 rfl Try.ntmps41 (by kernel_rfl) rfl rfl rfl (Nat.le_of_ble_eq_true rfl) rfl ?_
          refine vc_seq ?_
          refine vc_go (by kernel_rfl) fun K hK => hK _ _ _ ?_
          clear hK K
          refine vc_seq ?_
          refine vc_go (by kernel_rfl) fun K hK => hK _ _ _ ?_
          clear hK K
          refine vc_seq ?_
          refine vc_regL (by kernel_rfl) fun K hK => ?_
          refine vl_pre 2 ?_
          refine run_end (z := false) fun K' hK' => hK' _ _ _ ?_
          clear hK' K'
          refine vl_inl (vs := [qv 4 l2.length c9, .func (.func 89) #[] #[.pointer (some ⟨8, 0, none⟩)]]) Try.func88 rfl Try.ntmps88 (by kernel_rfl) rfl rfl rfl (Nat.le_of_ble_eq_true rfl) rfl ?_
          refine vc_seq ?_
          refine vc_go (by kernel_rfl) fun K hK => hK _ _ _ ?_
          clear hK K
          refine vc_seq ?_
          refine vc_seq ?_
          refine vc_reg (by kernel_rfl) fun K hK => ?_
          refine run_n (z := false) 1 (fun K' hK' => hK' _ _ _ ?_) (by decide)
          clear hK' K'
          refine run_ro (fun _ => (4, 0)) ((h47b c9)) ?_ rfl rfl rfl rfl ?_
          · intro x hx
            simp only [List.mem_singleton] at hx
            subst hx
            exact ⟨_, _, _, rfl, fun i v hv => by rw [Nat.zero_add]; exact hv⟩
          refine run_end (z := false) fun K' hK' => hK' _ _ _ (hK _ _ _ ?_)
          clear hK' K' hK K
          refine vc_seq ?_
          refine vc_go (by kernel_rfl) fun K hK => hK _ _ _ ?_
          clear hK K
          refine vc_cond (t := false) rfl (fun h => by cases h) (fun _ => ?_)
          refine vc_skip ?_
          refine vc_seq ?_
          refine vc_reg (by kernel_rfl) fun K hK => ?_
          refine run_n (z := false) 2 (fun K' hK' => hK' _ _ _ ?_) (by decide)
          clear hK' K'
          refine run_fc (fun k => (4, 0)) (p118 c9 (by omega)) (hasF ⟨sf_winp (rcs_plain l2) rfl get_zero, trivial⟩ rfl) rfl rfl rfl rfl ⟨_, _, l2.length, Nat.le_refl _, rfl, rfl⟩ ?_
          rintro _ _ ⟨c10, hc10, rfl, rfl⟩
          rw [renU_c (renB_p (spare_plain l2 _)) renU_nil]
          refine run_end (z := false) fun K' hK' => hK' _ _ _ (hK _ _ _ ?_)
          clear hK' K' hK K
          refine vc_seq ?_
          refine vc_seq ?_
          refine vc_reg (by kernel_rfl) fun K hK => ?_
          refine run_n (z := false) 1 (fun K' hK' => hK' _ _ _ ?_) (by decide)
          clear hK' K'
          refine run_fc (fun k => if k = 0 then (15, 0) else if k = 1 then (13, 0) else (8, 0)) (h89b c10 hc10) (hasF ⟨sf_own rfl rfl, sf_ownp (spare_plain l2 _) rfl rfl, sf_own rfl rfl, trivial⟩ rfl) rfl rfl rfl rfl ⟨_, _, rfl, rfl⟩ ?_
          rintro _ _ ⟨rfl, rfl⟩
          rw [renU_c rfl (renU_c (renB_p (plainL_append (rcs_plain _) (zrow_plain rfl _))) (renU_c rfl renU_nil))]
          refine run_end (z := false) fun K' hK' => hK' _ _ _ (hK _ _ _ ?_)
          clear hK' K' hK K
          refine vc_seq ?_
          refine vc_go (by kernel_rfl) fun K hK => hK _ _ _ ?_
          clear hK K
          refine vc_cond (t := false) rfl (fun h => by cases h) (fun _ => ?_)
          refine vc_skip ?_
          refine vc_seq ?_
          refine vc_go (by kernel_rfl) fun K hK => hK _ _ _ ?_
          clear hK K
          refine vc_ret ⟨.inr rfl, ?_⟩
          refine ⟨.tuple #[.agg #[.slice (some ⟨13, 0, none⟩) l2.length c10], .int .i64 0], rfl, vl_cut ?_⟩
          refine vl_rest ?_
          refine run_end (z := false) fun K' hK' => hK' _ _ _ (hK _ _ _ ?_)
          clear hK' K' hK K
          refine vc_seq ?_
          refine vc_seq ?_
          refine vc_go (by kernel_rfl) fun K hK => hK _ _ _ ?_
          clear hK K
          refine vc_cond (t := false) rfl (fun h => by cases h) (fun _ => ?_)
          refine vc_skip ?_
          refine vc_seq ?_
          refine vc_goD [(1, 3)] (by kernel_rfl) (by kernel_rfl) fun K hK => hK _ _ _ _ ?_
          clear hK K
          refine vc_ret ⟨.inr rfl, ?_⟩
          refine ⟨.tuple #[.agg #[.slice (some ⟨13, 0, none⟩) l2.length c10], .slice none 0 0, .int .i64 0], rfl, vl_cut ?_⟩
          refine vl_rest ?_
          refine run_end (z := false) fun K' hK' => hK' _ _ _ (hK _ _ _ ?_)
          clear hK' K' hK K
          refine vc_seq ?_
          refine vc_reg (by kernel_rfl) fun K hK => ?_
          refine run_n (z := false) 10 (fun K' hK' => hK' _ _ _ ?_) (by decide)
          clear hK' K'
          refine run_ro (fun k => if k = 0 then (13, 0) else (4, 0)) (same_ro l2 c10 c9 (by omega)) ?_ rfl rfl rfl rfl ?_
          · intro x hx
            simp only [List.mem_cons, List.mem_singleton, List.not_mem_nil, or_false] at hx
            rcases hx with rfl | rfl
            · exact ⟨_, _, _, rfl, get_zero_app⟩
            · exact ⟨_, _, _, rfl, fun i v hv => (congrArg (fun k => (rws rc l2)[k]?) (Nat.zero_add i)).trans hv⟩
          refine run_end (z := false) fun K' hK' => hK' _ _ _ (hK _ _ _ ?_)
          clear hK' K' hK K
          refine vc_ret ⟨.inr rfl, ?_⟩
          exact fin_bb (by rw [hlen]; simp)
  · rw [topQ_yes hq] at hx htb
    rw [chk1_yes hq] at h47
    rw [← hx] at hb hn
    have h89 := fun c9 hc9 => p89s (l := l) (c := c9) (sp := zrow (c9 - l.length) z5) (by omega) hc9 (zrow_plain rfl _) hq hx hb hn
    have htb2 := tb2 hq hx htb
    obtain ⟨hq2, htop2, hI2, hQ2, hb2⟩ := again hq hx hb
    obtain ⟨l2, hl2⟩ : ∃ l2, l2 = clQ x l := ⟨_, rfl⟩
    have hlen : l2.length = l.length := by rw [hl2, clQ_len]
    have hSl := clI_len (x := x) (l := l)
    simp only [← hl2] at h89
    rw [← hl2] at hq2 htop2 hI2 hQ2 hb2
    have h47b := fun c => p47 l2 c (by omega)
    simp only [chk1_yes hq2] at h47b
    have h40b := fun c => p40 l2 c (by omega)
    simp only [topQ_yes hq2, htop2, ← hx, ← htb] at h40b
    have hx2 : x = accV (topS none l2) := by rw [htop2]; exact hx
    have h89b := fun c9 hc9 => p89n (l := l2) (c := c9) (sp := zrow (c9 - l2.length) z5) (by omega) hc9 (zrow_plain rfl _) hq2 hx2 hb2 hI2
    simp only [hQ2] at h89b
    refine vc_regL (by kernel_rfl) fun K hK => ?_
    refine vl_pre 1 ?_
    refine run_end (z := false) fun K' hK' => hK' _ _ _ ?_
    clear hK' K'
    refine vl_inl (vs := [qv 1 l.length c2]) Try.func41 rfl Try.ntmps41 (by kernel_rfl) rfl rfl rfl (Nat.le_of_ble_eq_true rfl) rfl ?_
    refine vc_seq ?_
    refine vc_go (by kernel_rfl) fun K hK => hK _ _ _ ?_
    clear hK K
    refine vc_seq ?_
    refine vc_go (by kernel_rfl) fun K hK => hK _ _ _ ?_
    clear hK K
    refine vc_seq ?_
    refine vc_regL (by kernel_rfl) fun K hK => ?_
    refine vl_pre 2 ?_
    refine run_end (z := false) fun K' hK' => hK' _ _ _ ?_
    clear hK' K'
    refine vl_inl (vs := [qv 1 l.length c2, .func (.func 89) #[] #[.pointer (some ⟨5, 0, none⟩)]]) Try.func88 rfl Try.ntmps88 (by kernel_rfl) rfl rfl rfl (Nat.le_of_ble_eq_true rfl) rfl ?_
    refine vc_seq ?_
    refine vc_go (by kernel_rfl) fun K hK => hK _ _ _ ?_
    clear hK K
    refine vc_seq ?_
    refine vc_seq ?_
    refine vc_reg (by kernel_rfl) fun K hK => ?_
    refine run_n (z := false) 1 (fun K' hK' => hK' _ _ _ ?_) (by decide)
    clear hK' K'
    refine run_ro (fun _ => (1, 0)) (h47) ?_ rfl rfl rfl rfl ?_
    · intro x hx
      simp only [List.mem_singleton] at hx
      subst hx
      exact ⟨_, _, _, rfl, fun i v hv => by rw [Nat.zero_add]; exact hv⟩
    refine run_end (z := false) fun K' hK' => hK' _ _ _ (hK _ _ _ ?_)
    clear hK' K' hK K
    refine vc_seq ?_
    refine vc_go (by kernel_rfl) fun K hK => hK _ _ _ ?_
    clear hK K
    refine vc_cond (t := false) rfl (fun h => by cases h) (fun _ => ?_)
    refine vc_skip ?_
    refine vc_seq ?_
    refine vc_reg (by kernel_rfl) fun K hK => ?_
    refine run_n (z := false) 2 (fun K' hK' => hK' _ _ _ ?_) (by decide)
    clear hK' K'
    refine run_fc (fun k => (1, 0)) (p118 c2 (by omega)) (hasF ⟨sf_winp (rcs_plain l) rfl get_zero, trivial⟩ rfl) rfl rfl rfl rfl ⟨_, _, l.length, Nat.le_refl _, rfl, rfl⟩ ?_
    rintro _ _ ⟨c9, hc9, rfl, rfl⟩
    rw [renU_c (renB_p (spare_plain l _)) renU_nil]
    refine run_end (z := false) fun K' hK' => hK' _ _ _ (hK _ _ _ ?_)
    clear hK' K' hK K
    refine vc_seq ?_
    refine vc_seq ?_
    refine vc_reg (by kernel_rfl) fun K hK => ?_
    refine run_n (z := false) 1 (fun K' hK' => hK' _ _ _ ?_) (by decide)
    clear hK' K'
    refine run_fc (fun k => if k = 0 then (12, 0) else if k = 1 then (10, 0) else (5, 0)) (h89 c9 hc9) (hasF ⟨sf_own rfl rfl, sf_ownp (spare_plain l _) rfl rfl, sf_own rfl rfl, trivial⟩ rfl) rfl rfl rfl rfl ⟨_, _, rfl, 0, [], rfl, rfl⟩ ?_
    rintro _ _ ⟨rfl, c3, sp3, hp3, rfl⟩
    rw [renU_c rfl (renU_c (renB_p (plainL_append (rcs_plain _) (zrow_plain rfl _))) (renU_c rfl (renU_c (renB_p (plainL_append (ics_plain _) hp3)) renU_nil)))]
    refine run_end (z := false) fun K' hK' => hK' _ _ _ (hK _ _ _ ?_)
    clear hK' K' hK K
    refine vc_seq ?_
    refine vc_go (by kernel_rfl) fun K hK => hK _ _ _ ?_
    clear hK K
    refine vc_cond (t := false) rfl (fun h => by cases h) (fun _ => ?_)
    refine vc_skip ?_
    refine vc_seq ?_
    refine vc_go (by kernel_rfl) fun K hK => hK _ _ _ ?_
    clear hK K
    refine vc_ret ⟨.inr rfl, ?_⟩
    refine ⟨.tuple #[.agg #[.slice (some ⟨10, 0, none⟩) l2.length c9], .int .i64 0], rfl, vl_cut ?_⟩
    refine vl_rest ?_
    refine run_end (z := false) fun K' hK' => hK' _ _ _ (hK _ _ _ ?_)
    clear hK' K' hK K
    refine vc_seq ?_
    refine vc_seq ?_
    refine vc_go (by kernel_rfl) fun K hK => hK _ _ _ ?_
    clear hK K
    refine vc_cond (t := false) rfl (fun h => by cases h) (fun _ => ?_)
    refine vc_skip ?_
    refine vc_seq ?_
    refine vc_goD [(1, 3)] (by kernel_rfl) (by kernel_rfl) fun K hK => hK _ _ _ _ ?_
    clear hK K
    refine vc_ret ⟨.inr rfl, ?_⟩
    refine ⟨.tuple #[.agg #[.slice (some ⟨10, 0, none⟩) l2.length c9], .slice (some ⟨14, 0, none⟩) (clI x l).length c3, .int .i64 0], rfl, vl_cut ?_⟩
    refine vl_rest ?_
    refine run_end (z := false) fun K' hK' => hK' _ _ _ (hK _ _ _ ?_)
    clear hK' K' hK K
    refine renF (fun k => if k = 3 then 23 else if k = 4 then 10 else if k = 5 then 14 else k) [(3, .pointer (some ⟨0, 0, none⟩)), (4, .pointer (some ⟨2, 0, none⟩)), (5, .bool tb), (6, .pointer (some ⟨3, 0, none⟩)), (7, .slice (some ⟨5, 0, none⟩) (clI x l).length c3), (8, .int .i64 0)] [(0, .cells [.slice (some ⟨1, 0, none⟩) l.length c2] 55 true), (1, .cells (rws rc l) 67 false), (2, .cells (frc x.1 x.2) 58 true), (3, .cells [.slice (some ⟨4, 0, none⟩) l2.length c9] 55 true), (4, .cells (rws rc l2) 67 false), (5, .cells (rws ic (clI x l)) 3 false)] 6 (by decide) (fun m hm => absurd hm (Nat.not_lt_zero m)) ⟨rfl, rfl, rfl, rfl, rfl, rfl, trivial⟩ ⟨sf_own rfl rfl, sf_winp (rcs_plain l) rfl get_zero, sf_ownp (by rfl) rfl rfl, sf_own rfl rfl, sf_winp (rcs_plain l2) rfl get_zero_app, sf_winp (ics_plain _) rfl get_zero_app, trivial⟩ rfl (bdH_b (by decide) rfl (bdH_c (by decide) (rcs_plain l) (bdH_c (by decide) (by rfl) (bdH_b (by decide) rfl (bdH_c (by decide) (rcs_plain l2) (bdH_c (by decide) (ics_plain _) rfl)))))) rfl ?_
    refine vc_seq ?_
    refine vc_seq ?_
    refine vc_go (by kernel_rfl) fun K hK => hK _ _ _ ?_
    clear hK K
    refine vc_cond (t := false) rfl (fun h => by cases h) (fun _ => ?_)
    refine vc_skip ?_
    refine vc_seq ?_
    refine vc_reg (by kernel_rfl) fun K hK => ?_
    refine run_n (z := false) 1 (fun K' hK' => hK' _ _ _ ?_) (by decide)
    clear hK' K'
    refine run_ro (fun _ => (4, 0)) ((h40b c9)) ?_ rfl rfl rfl rfl ?_
    · intro x hx
      simp only [List.mem_singleton] at hx
      subst hx
      exact ⟨_, _, _, rfl, fun i v hv => by rw [Nat.zero_add]; exact hv⟩
    refine run_end (z := false) fun K' hK' => hK' _ _ _ (hK _ _ _ ?_)
    clear hK' K' hK K
    refine vc_seq ?_
    refine vc_mid (fun s => s = can [(3, .pointer (some ⟨0, 0, none⟩)), (4, .pointer (some ⟨2, 0, none⟩)), (6, .pointer (some ⟨3, 0, none⟩)), (7, .slice (some ⟨5, 0, none⟩) (clI x l).length c3)] [(0, .cells [.slice (some ⟨1, 0, none⟩) l.length c2] 55 true), (1, .cells (rws rc l) 67 false), (2, .cells (frc x.1 x.2) 58 true), (3, .cells [.slice (some ⟨4, 0, none⟩) l2.length c9] 55 true), (4, .cells (rws rc l2) 67 false), (5, .cells (rws ic (clI x l)) 3 false)] 6) ?_ ?_
    · skip
      refine vc_seq ?_
      rcases htb2 with rfl | ⟨rfl, hxx⟩
      · skip
        refine vc_reg (by kernel_rfl) fun K hK => ?_
        refine run_n (z := false) 6 (fun K' hK' => hK' _ _ _ ?_) (by decide)
        clear hK' K'
        refine vgo_known 54 (b := false) (rfl) ?_
        refine run_end (z := false) fun K' hK' => hK' _ _ _ (hK _ _ _ ?_)
        clear hK' K' hK K
        refine vc_cond (t := false) rfl (fun h => by cases h) (fun _ => ?_)
        refine vc_skip ?_
        exact ⟨rfl, _, fg_focus [(3, .pointer (some ⟨0, 0, none⟩)), (4, .pointer (some ⟨2, 0, none⟩)), (6, .pointer (some ⟨3, 0, none⟩)), (7, .slice (some ⟨5, 0, none⟩) (clI x l).length c3)] [(0, .cells [.slice (some ⟨1, 0, none⟩) l.length c2] 55 true), (1, .cells (rws rc l) 67 false), (2, .cells (frc x.1 x.2) 58 true), (3, .cells [.slice (some ⟨4, 0, none⟩) l2.length c9] 55 true), (4, .cells (rws rc l2) 67 false), (5, .cells (rws ic (clI x l)) 3 false)] 6 (by decide) ⟨rfl, rfl, rfl, rfl, trivial⟩ ⟨sb rfl, sb rfl, sb rfl, sb rfl, sb rfl, sb rfl, trivial⟩ rfl (bdH_b (by decide) rfl (bdH_c (by decide) (rcs_plain l) (bdH_c (by decide) (by rfl) (bdH_b (by decide) rfl (bdH_c (by decide) (rcs_plain l2) (bdH_c (by decide) (ics_plain _) rfl)))))), rfl⟩
      · have h42x := p42y hxx hxx
        rw [cmp_zero] at h42x
        refine vc_reg (by kernel_rfl) fun K hK => ?_
        refine run_n (z := false) 8 (fun K' hK' => hK' _ _ _ ?_) (by decide)
        clear hK' K'
        refine run_call (h42x) rfl rfl rfl rfl ?_
        refine run_end (z := false) fun K' hK' => hK' _ _ _ (hK _ _ _ ?_)
        clear hK' K' hK K
        refine vc_cond (t := false) rfl (fun h => by cases h) (fun _ => ?_)
        refine vc_skip ?_
        exact ⟨rfl, _, fg_focus [(3, .pointer (some ⟨0, 0, none⟩)), (4, .pointer (some ⟨2, 0, none⟩)), (6, .pointer (some ⟨3, 0, none⟩)), (7, .slice (some ⟨5, 0, none⟩) (clI x l).length c3)] [(0, .cells [.slice (some ⟨1, 0, none⟩) l.length c2] 55 true), (1, .cells (rws rc l) 67 false), (2, .cells (frc x.1 x.2) 58 true), (3, .cells [.slice (some ⟨4, 0, none⟩) l2.length c9] 55 true), (4, .cells (rws rc l2) 67 false), (5, .cells (rws ic (clI x l)) 3 false)] 6 (by decide) ⟨rfl, rfl, rfl, rfl, trivial⟩ ⟨sb rfl, sb rfl, sb rfl, sb rfl, sb rfl, sb rfl, trivial⟩ rfl (bdH_b (by decide) rfl (bdH_c (by decide) (rcs_plain l) (bdH_c (by decide) (by rfl) (bdH_b (by decide) rfl (bdH_c (by decide) (rcs_plain l2) (bdH_c (by decide) (ics_plain _) rfl)))))), rfl⟩
    · skip
      rintro s2 rfl
      refine vc_seq ?_
      refine vc_reg (by kernel_rfl) fun K hK => ?_
      refine run_sp (sp_mkMap rfl) rfl rfl rfl ⟨_, _, rfl, rfl⟩ ?_
      rintro _ _ ⟨rfl, rfl⟩
      refine run_end (z := false) fun K' hK' => hK' _ _ _ (hK _ _ _ ?_)
      clear hK' K' hK K
      refine vc_seq ?_
      refine vc_seq ?_
      refine vc_go (by kernel_rfl) fun K hK => hK _ _ _ ?_
      clear hK K
      refine vc_block ?_
      refine vc_loopF (fun n s => ∃ j : Nat, n = (clI x l).length - j ∧ j ≤ (clI x l).length ∧ s = can [(3, .pointer (some ⟨0, 0, none⟩)), (4, .pointer (some ⟨2, 0, none⟩)), (6, .pointer (some ⟨3, 0, none⟩)), (11, .map (some 6)), (62, .slice (some ⟨5, 0, none⟩) (clI x l).length c3), (63, .int .i64 ((clI x l).length : Int)), (64, .int .i64 ((j : Nat) : Int))] [(0, .cells [.slice (some ⟨1, 0, none⟩) l.length c2] 55 true), (1, .cells (rws rc l) 67 false), (2, .cells (frc x.1 x.2) 58 true), (3, .cells [.slice (some ⟨4, 0, none⟩) l2.length c9] 55 true), (4, .cells (rws rc l2) 67 false), (5, .cells (rws ic (clI x l)) 3 false), (6, .obj (mS ((clI x l).take (j))))] 7) (clI x l).length ?_ ?_
      · exact ⟨_, fg_focus [(3, .pointer (some ⟨0, 0, none⟩)), (4, .pointer (some ⟨2, 0, none⟩)), (6, .pointer (some ⟨3, 0, none⟩)), (11, .map (some 6)), (62, .slice (some ⟨5, 0, none⟩) (clI x l).length c3), (63, .int .i64 ((clI x l).length : Int)), (64, .int .i64 ((0 : Nat) : Int))] [(0, .cells [.slice (some ⟨1, 0, none⟩) l.length c2] 55 true), (1, .cells (rws rc l) 67 false), (2, .cells (frc x.1 x.2) 58 true), (3, .cells [.slice (some ⟨4, 0, none⟩) l2.length c9] 55 true), (4, .cells (rws rc l2) 67 false), (5, .cells (rws ic (clI x l)) 3 false), (6, .obj (mS ((clI x l).take (0))))] 7 (by decide) ⟨rfl, rfl, rfl, rfl, rfl, rfl, rfl, trivial⟩ ⟨sb rfl, sb rfl, sb rfl, sb rfl, sb rfl, sb rfl, sb rfl, trivial⟩ rfl (bdH_b (by decide) rfl (bdH_c (by decide) (rcs_plain l) (bdH_c (by decide) (by rfl) (bdH_b (by decide) rfl (bdH_c (by decide) (rcs_plain l2) (bdH_c (by decide) (ics_plain _) (bdH_b (by decide) rfl rfl))))))), 0, rfl, Nat.zero_le _, rfl⟩
      · rintro n s ⟨j, hn1, hj, rfl⟩
        refine vc_seq ?_
        refine vc_go (by kernel_rfl) fun K hK => hK _ _ _ ?_
        clear hK K
        refine vc_seq ?_
        refine vc_cond rfl (fun c0 => ?_) (fun c0 => ?_)
        · -- cond 14 t65 true
          refine vc_skip ?_
          refine vc_seq ?_
          refine vc_block ?_
          refine vc_seq ?_
          have hlt2 := len_le c0
          obtain ⟨id, hid⟩ : ∃ id, (clI x l)[j]? = some id := ⟨(clI x l)[j], List.getElem?_eq_getElem hlt2⟩
          refine vc_reg (by kernel_rfl) fun K hK => ?_
          refine run_op (vex_ixs (j := j) rfl rfl rfl hlt2 rfl rfl) rfl ?_
          refine run_rd (vex_ldc ic_len (j := 0) (i := j) rfl (Nat.zero_add _) rfl (rws_win ic _) rfl hid (by decide) rfl) rfl ?_
          refine run_end (z := false) fun K' hK' => hK' _ _ _ (hK _ _ _ ?_)
          clear hK' K' hK K
          refine vc_reg (by kernel_rfl) fun K hK => ?_
          refine run_n (z := false) 2 (fun K' hK' => hK' _ _ _ ?_) (by decide)
          clear hK' K'
          refine run_sp (sp_mapSet rfl rfl rfl rfl rfl (not_taken (clI_nodup hq) hid)) rfl rfl rfl ⟨_, _, rfl, rfl⟩ ?_
          rintro _ _ ⟨rfl, rfl⟩
          refine run_end (z := false) fun K' hK' => hK' _ _ _ (hK _ _ _ ?_)
          clear hK' K' hK K
          refine vc_go (by kernel_rfl) fun K hK => hK _ _ _ ?_
          clear hK K
          exact ⟨_, fg_focus [(3, .pointer (some ⟨0, 0, none⟩)), (4, .pointer (some ⟨2, 0, none⟩)), (6, .pointer (some ⟨3, 0, none⟩)), (11, .map (some 6)), (62, .slice (some ⟨5, 0, none⟩) (clI x l).length c3), (63, .int .i64 ((clI x l).length : Int)), (64, .int .i64 ((j + 1 : Nat) : Int))] [(0, .cells [.slice (some ⟨1, 0, none⟩) l.length c2] 55 true), (1, .cells (rws rc l) 67 false), (2, .cells (frc x.1 x.2) 58 true), (3, .cells [.slice (some ⟨4, 0, none⟩) l2.length c9] 55 true), (4, .cells (rws rc l2) 67 false), (5, .cells (rws ic (clI x l)) 3 false), (6, .obj (mS ((clI x l).take (j + 1))))] 7 (by decide) ⟨rfl, rfl, rfl, rfl, rfl, rfl, ii (wrapI (by omega) (by omega)), trivial⟩ ⟨sb rfl, sb rfl, sb rfl, sb rfl, sb rfl, sb rfl, sbo rfl (take_next hid), trivial⟩ rfl (bdH_b (by decide) rfl (bdH_c (by decide) (rcs_plain l) (bdH_c (by decide) (by rfl) (bdH_b (by decide) rfl (bdH_c (by decide) (rcs_plain l2) (bdH_c (by decide) (ics_plain _) (bdH_b (by decide) rfl rfl))))))), (clI x l).length - (j + 1), by omega, j + 1, rfl, hlt2, rfl⟩
        · -- cond 14 t65 false
          refine vc_exit ?_
          refine vc_seq ?_
          refine vc_seq ?_
          have hje : j = (clI x l).length := by have := len_ge c0; omega
          subst hje
          rw [List.take_length]
          refine vc_go (by kernel_rfl) fun K hK => hK _ _ _ ?_
          clear hK K
          refine vc_block ?_
          refine vc_loopF (fun n s => ∃ i : Nat, n = l2.length - i ∧ i ≤ l2.length ∧ s = can [(3, .pointer (some ⟨0, 0, none⟩)), (4, .pointer (some ⟨2, 0, none⟩)), (6, .pointer (some ⟨3, 0, none⟩)), (11, .map (some 6)), (72, .slice (some ⟨4, 0, none⟩) l2.length c9), (73, .int .i64 (l2.length : Int)), (74, .int .i64 ((i : Nat) : Int))] [(0, .cells [.slice (some ⟨1, 0, none⟩) l.length c2] 55 true), (1, .cells (rws rc l) 67 false), (2, .cells (frc x.1 x.2) 58 true), (3, .cells [.slice (some ⟨4, 0, none⟩) l2.length c9] 55 true), (4, .cells (rws rc l2) 67 false), (6, .obj (mS (clI x l)))] 7) l2.length ?_ ?_
          · exact ⟨_, fg_focus [(3, .pointer (some ⟨0, 0, none⟩)), (4, .pointer (some ⟨2, 0, none⟩)), (6, .pointer (some ⟨3, 0, none⟩)), (11, .map (some 6)), (72, .slice (some ⟨4, 0, none⟩) l2.length c9), (73, .int .i64 (l2.length : Int)), (74, .int .i64 ((0 : Nat) : Int))] [(0, .cells [.slice (some ⟨1, 0, none⟩) l.length c2] 55 true), (1, .cells (rws rc l) 67 false), (2, .cells (frc x.1 x.2) 58 true), (3, .cells [.slice (some ⟨4, 0, none⟩) l2.length c9] 55 true), (4, .cells (rws rc l2) 67 false), (6, .obj (mS (clI x l)))] 7 (by decide) ⟨rfl, rfl, rfl, rfl, rfl, rfl, rfl, trivial⟩ ⟨sb rfl, sb rfl, sb rfl, sb rfl, sb rfl, sb rfl, trivial⟩ rfl (bdH_b (by decide) rfl (bdH_c (by decide) (rcs_plain l) (bdH_c (by decide) (by rfl) (bdH_b (by decide) rfl (bdH_c (by decide) (rcs_plain l2) (bdH_b (by decide) rfl rfl)))))), 0, rfl, Nat.zero_le _, rfl⟩
          · rintro n s ⟨i, hn3, hi, rfl⟩
            refine vc_seq ?_
            refine vc_go (by kernel_rfl) fun K hK => hK _ _ _ ?_
            clear hK K
            refine vc_seq ?_
            refine vc_cond rfl (fun c1 => ?_) (fun c1 => ?_)
            · -- cond 15 t75 true
              refine vc_skip ?_
              refine vc_seq ?_
              refine vc_block ?_
              refine vc_seq ?_
              have hlt := len_le c1
              have hlt1 : i < l.length := by rw [← hlen]; exact hlt
              obtain ⟨r, hr⟩ : ∃ r, l[i]? = some r := ⟨l[i], List.getElem?_eq_getElem hlt1⟩
              have hrl := List.mem_of_getElem? hr
              obtain ⟨_, hxr⟩ := top_in hq hrl
              rw [← hx] at hxr
              have hrr := okR_rt (okq_mem hq r hrl)
              have h43 := p43 l c2 r.id (by omega)
              rw [(at_of hq hr).2.2] at h43
              simp only [Option.getD_some, Option.isSome_some] at h43
              have hmem := clI_mem (x := x) hq hr
              have hM : l2[i]? = some (clR x r) := by rw [hl2]; exact clQ_get hr
              have h44r := p44y (s := SLK) hrr hxr (by decide)
              cases hg : clG x r
              · rw [clR_no hg] at hM
                rw [hg] at hmem
                rw [show bh r.n r.w x.1 x.2 SLK = false from hg] at h44r
                refine vc_reg (by kernel_rfl) fun K hK => ?_
                refine run_op (vex_ixs (j := i) rfl rfl rfl hlt rfl rfl) rfl ?_
                refine run_rd (vex_ldr rc_len (j := 0) (i := i) (d := rc r) rfl (Nat.zero_add _) rfl (rws_win rc l2) rfl hM (by decide) rfl) rfl ?_
                refine run_end (z := false) fun K' hK' => hK' _ _ _ (hK _ _ _ ?_)
                clear hK' K' hK K
                refine vc_seq ?_
                refine vc_reg (by kernel_rfl) fun K hK => ?_
                refine run_n (z := false) 3 (fun K' hK' => hK' _ _ _ ?_) (by decide)
                clear hK' K'
                refine run_ro (fun _ => (1, 0)) (h43) ?_ rfl rfl rfl rfl ?_
                · intro x hx
                  simp only [List.mem_singleton] at hx
                  subst hx
                  exact ⟨_, _, _, rfl, fun i v hv => by rw [Nat.zero_add]; exact hv⟩
                refine run_end (z := false) fun K' hK' => hK' _ _ _ (hK _ _ _ ?_)
                clear hK' K' hK K
                refine vc_seq ?_
                refine vc_regD [(12, 14), (12, 15), (11, 16), (12, 16)] (by kernel_rfl) (by kernel_rfl) fun K hK => ?_
                refine runD_n (z := false) 6 (fun K' hK' => hK' _ _ _ _ ?_) (by decide)
                clear hK' K'
                refine runD_call (h44r) rfl rfl rfl rfl ?_
                refine runD_n (z := false) 5 (fun K' hK' => hK' _ _ _ _ ?_) (by decide)
                clear hK' K'
                refine runD_rd (vex_look rfl rfl rfl hmem) rfl rfl ?_
                refine runD_n (z := false) 3 (fun K' hK' => hK' _ _ _ _ ?_) (by decide)
                clear hK' K'
                refine runD_call (h44r) rfl rfl rfl rfl ?_
                refine runD_n (z := false) 6 (fun K' hK' => hK' _ _ _ _ ?_) (by decide)
                clear hK' K'
                refine runD_rd (vex_look rfl rfl rfl hmem) rfl rfl ?_
                refine runD_n (z := false) 8 (fun K' hK' => hK' _ _ _ _ ?_) (by decide)
                clear hK' K'
                refine W_known 116 (b := false) (bb (by rw [rn_beq]; simp)) ?_
                refine runD_n (z := false) 3 (fun K' hK' => hK' _ _ _ _ ?_) (by decide)
                clear hK' K'
                refine runD_rd (vex_look rfl rfl rfl hmem) rfl rfl ?_
                refine runD_n (z := false) 1 (fun K' hK' => hK' _ _ _ _ ?_) (by decide)
                clear hK' K'
                refine W_known 121 (b := false) (rfl) ?_
                refine runD_end (z := false) fun K' hK' => hK' _ _ _ _ (hK _ _ _ ?_)
                clear hK' K' hK K
                refine vc_cond (t := false) rfl (fun h => by cases h) (fun _ => ?_)
                refine vc_skip ?_
                refine vc_go (by kernel_rfl) fun K hK => hK _ _ _ ?_
                clear hK K
                exact ⟨_, fg_focus [(3, .pointer (some ⟨0, 0, none⟩)), (4, .pointer (some ⟨2, 0, none⟩)), (6, .pointer (some ⟨3, 0, none⟩)), (11, .map (some 6)), (72, .slice (some ⟨4, 0, none⟩) l2.length c9), (73, .int .i64 (l2.length : Int)), (74, .int .i64 ((i + 1 : Nat) : Int))] [(0, .cells [.slice (some ⟨1, 0, none⟩) l.length c2] 55 true), (1, .cells (rws rc l) 67 false), (2, .cells (frc x.1 x.2) 58 true), (3, .cells [.slice (some ⟨4, 0, none⟩) l2.length c9] 55 true), (4, .cells (rws rc l2) 67 false), (6, .obj (mS (clI x l)))] 7 (by decide) ⟨rfl, rfl, rfl, rfl, rfl, rfl, ii (wrapI (by omega) (by omega)), trivial⟩ ⟨sb rfl, sb rfl, sb rfl, sb rfl, sb rfl, sb rfl, trivial⟩ rfl (bdH_b (by decide) rfl (bdH_c (by decide) (rcs_plain l) (bdH_c (by decide) (by rfl) (bdH_b (by decide) rfl (bdH_c (by decide) (rcs_plain l2) (bdH_b (by decide) rfl rfl)))))), l2.length - (i + 1), by omega, i + 1, rfl, hlt, rfl⟩
              · rw [clR_yes hg] at hM
                rw [hg] at hmem
                rw [show bh r.n r.w x.1 x.2 SLK = true from hg] at h44r
                have hF := clB_no hg (hb r hrl)
                have hFr : rt (farN x.1 x.2 r.w) r.w = true := rt_mk (rt_wt hrr) hF
                have h44 := p44y (s := SLK) hFr hxr (by decide)
                rw [far_not (rt_w hxr).1] at h44
                have h42 := p42y hFr hrr
                rw [cmp_one (far_up (rt_w hxr).1 hg) (rt_w hrr).1] at h42
                refine vc_reg (by kernel_rfl) fun K hK => ?_
                refine run_op (vex_ixs (j := i) rfl rfl rfl hlt rfl rfl) rfl ?_
                refine run_rd (vex_ldr rc_len (j := 0) (i := i) (d := rc ({ r with n := farN x.1 x.2 r.w } : Rn)) rfl (Nat.zero_add _) rfl (rws_win rc l2) rfl hM (by decide) rfl) rfl ?_
                refine run_end (z := false) fun K' hK' => hK' _ _ _ (hK _ _ _ ?_)
                clear hK' K' hK K
                refine vc_seq ?_
                refine vc_reg (by kernel_rfl) fun K hK => ?_
                refine run_n (z := false) 3 (fun K' hK' => hK' _ _ _ ?_) (by decide)
                clear hK' K'
                refine run_ro (fun _ => (1, 0)) (h43) ?_ rfl rfl rfl rfl ?_
                · intro x hx
                  simp only [List.mem_singleton] at hx
                  subst hx
                  exact ⟨_, _, _, rfl, fun i v hv => by rw [Nat.zero_add]; exact hv⟩
                refine run_end (z := false) fun K' hK' => hK' _ _ _ (hK _ _ _ ?_)
                clear hK' K' hK K
                refine vc_seq ?_
                refine vc_regD [(12, 14), (12, 15), (11, 16), (12, 16)] (by kernel_rfl) (by kernel_rfl) fun K hK => ?_
                refine runD_n (z := false) 6 (fun K' hK' => hK' _ _ _ _ ?_) (by decide)
                clear hK' K'
                refine runD_call (h44) rfl rfl rfl rfl ?_
                refine runD_n (z := false) 5 (fun K' hK' => hK' _ _ _ _ ?_) (by decide)
                clear hK' K'
                refine runD_rd (vex_look rfl rfl rfl hmem) rfl rfl ?_
                refine runD_n (z := false) 3 (fun K' hK' => hK' _ _ _ _ ?_) (by decide)
                clear hK' K'
                refine runD_call (h44r) rfl rfl rfl rfl ?_
                refine runD_n (z := false) 6 (fun K' hK' => hK' _ _ _ _ ?_) (by decide)
                clear hK' K'
                refine runD_rd (vex_look rfl rfl rfl hmem) rfl rfl ?_
                refine runD_n (z := false) 11 (fun K' hK' => hK' _ _ _ _ ?_) (by decide)
                clear hK' K'
                refine runD_rd (vex_look rfl rfl rfl hmem) rfl rfl ?_
                refine runD_n (z := false) 5 (fun K' hK' => hK' _ _ _ _ ?_) (by decide)
                clear hK' K'
                refine runD_call (h42) rfl rfl rfl rfl ?_
                refine runD_end (z := false) fun K' hK' => hK' _ _ _ _ (hK _ _ _ ?_)
                clear hK' K' hK K
                refine vc_cond (t := false) rfl (fun h => by cases h) (fun _ => ?_)
                refine vc_skip ?_
                refine vc_go (by kernel_rfl) fun K hK => hK _ _ _ ?_
                clear hK K
                exact ⟨_, fg_focus [(3, .pointer (some ⟨0, 0, none⟩)), (4, .pointer (some ⟨2, 0, none⟩)), (6, .pointer (some ⟨3, 0, none⟩)), (11, .map (some 6)), (72, .slice (some ⟨4, 0, none⟩) l2.length c9), (73, .int .i64 (l2.length : Int)), (74, .int .i64 ((i + 1 : Nat) : Int))] [(0, .cells [.slice (some ⟨1, 0, none⟩) l.length c2] 55 true), (1, .cells (rws rc l) 67 false), (2, .cells (frc x.1 x.2) 58 true), (3, .cells [.slice (some ⟨4, 0, none⟩) l2.length c9] 55 true), (4, .cells (rws rc l2) 67 false), (6, .obj (mS (clI x l)))] 7 (by decide) ⟨rfl, rfl, rfl, rfl, rfl, rfl, ii (wrapI (by omega) (by omega)), trivial⟩ ⟨sb rfl, sb rfl, sb rfl, sb rfl, sb rfl, sb rfl, trivial⟩ rfl (bdH_b (by decide) rfl (bdH_c (by decide) (rcs_plain l) (bdH_c (by decide) (by rfl) (bdH_b (by decide) rfl (bdH_c (by decide) (rcs_plain l2) (bdH_b (by decide) rfl rfl)))))), l2.length - (i + 1), by omega, i + 1, rfl, hlt, rfl⟩
            · -- cond 15 t75 false
              refine vc_exit ?_
              refine vc_seq ?_
              refine vc_regL (by kernel_rfl) fun K hK => ?_
              refine vl_pre 1 ?_
              refine run_end (z := false) fun K' hK' => hK' _ _ _ ?_
              clear hK' K'
              refine vl_inl (vs := [qv 4 l2.length c9]) Try.func41 rfl Try.ntmps41 (by kernel_rfl) rfl rfl rfl (Nat.le_of_ble_eq_true rfl) rfl ?_
              refine vc_seq ?_
              refine vc_go (by kernel_rfl) fun K hK => hK _ _ _ ?_
              clear hK K
              refine vc_seq ?_
              refine vc_go (by kernel_rfl) fun K hK => hK _ _ _ ?_
              clear hK K
              refine vc_seq ?_
              refine vc_regL (by kernel_rfl) fun K hK => ?_
              refine vl_pre 2 ?_
              refine run_end (z := false) fun K' hK' => hK' _ _ _ ?_
              clear hK' K'
              refine vl_inl (vs := [qv 4 l2.length c9, .func (.func 89) #[] #[.pointer (some ⟨9, 0, none⟩)]]) Try.func88 rfl Try.ntmps88 (by kernel_rfl) rfl rfl rfl (Nat.le_of_ble_eq_true rfl) rfl ?_
              refine vc_seq ?_
              refine vc_go (by kernel_rfl) fun K hK => hK _ _ _ ?_
              clear hK K
              refine vc_seq ?_
              refine vc_seq ?_
              refine vc_reg (by kernel_rfl) fun K hK => ?_
              refine run_n (z := false) 1 (fun K' hK' => hK' _ _ _ ?_) (by decide)
              clear hK' K'
              refine run_ro (fun _ => (4, 0)) ((h47b c9)) ?_ rfl rfl rfl rfl ?_
              · intro x hx
                simp only [List.mem_singleton] at hx
                subst hx
                exact ⟨_, _, _, rfl, fun i v hv => by rw [Nat.zero_add]; exact hv⟩
              refine run_end (z := false) fun K' hK' => hK' _ _ _ (hK _ _ _ ?_)
              clear hK' K' hK K
              refine vc_seq ?_
              refine vc_go (by kernel_rfl) fun K hK => hK _ _ _ ?_
              clear hK K
              refine vc_cond (t := false) rfl (fun h => by cases h) (fun _ => ?_)
              refine vc_skip ?_
              refine vc_seq ?_
              refine vc_reg (by kernel_rfl) fun K hK => ?_
              refine run_n (z := false) 2 (fun K' hK' => hK' _ _ _ ?_) (by decide)
              clear hK' K'
              refine run_fc (fun k => (4, 0)) (p118 c9 (by omega)) (hasF ⟨sf_winp (rcs_plain l2) rfl get_zero, trivial⟩ rfl) rfl rfl rfl rfl ⟨_, _, l2.length, Nat.le_refl _, rfl, rfl⟩ ?_
              rintro _ _ ⟨c10, hc10, rfl, rfl⟩
              rw [renU_c (renB_p (spare_plain l2 _)) renU_nil]
              refine run_end (z := false) fun K' hK' => hK' _ _ _ (hK _ _ _ ?_)
              clear hK' K' hK K
              refine vc_seq ?_
              refine vc_seq ?_
              refine vc_reg (by kernel_rfl) fun K hK => ?_
              refine run_n (z := false) 1 (fun K' hK' => hK' _ _ _ ?_) (by decide)
              clear hK' K'
              refine run_fc (fun k => if k = 0 then (16, 0) else if k = 1 then (14, 0) else (9, 0)) (h89b c10 hc10) (hasF ⟨sf_own rfl rfl, sf_ownp (spare_plain l2 _) rfl rfl, sf_own rfl rfl, trivial⟩ rfl) rfl rfl rfl rfl ⟨_, _, rfl, rfl⟩ ?_
              rintro _ _ ⟨rfl, rfl⟩
              rw [renU_c rfl (renU_c (renB_p (plainL_append (rcs_plain _) (zrow_plain rfl _))) (renU_c rfl renU_nil))]
              refine run_end (z := false) fun K' hK' => hK' _ _ _ (hK _ _ _ ?_)
              clear hK' K' hK K
              refine vc_seq ?_
              refine vc_go (by kernel_rfl) fun K hK => hK _ _ _ ?_
              clear hK K
              refine vc_cond (t := false) rfl (fun h => by cases h) (fun _ => ?_)
              refine vc_skip ?_
              refine vc_seq ?_
              refine vc_go (by kernel_rfl) fun K hK => hK _ _ _ ?_
              clear hK K
              refine vc_ret ⟨.inr rfl, ?_⟩
              refine ⟨.tuple #[.agg #[.slice (some ⟨14, 0, none⟩) l2.length c10], .int .i64 0], rfl, vl_cut ?_⟩
              refine vl_rest ?_
              refine run_end (z := false) fun K' hK' => hK' _ _ _ (hK _ _ _ ?_)
              clear hK' K' hK K
              refine vc_seq ?_
              refine vc_seq ?_
              refine vc_go (by kernel_rfl) fun K hK => hK _ _ _ ?_
              clear hK K
              refine vc_cond (t := false) rfl (fun h => by cases h) (fun _ => ?_)
              refine vc_skip ?_
              refine vc_seq ?_
              refine vc_goD [(1, 3)] (by kernel_rfl) (by kernel_rfl) fun K hK => hK _ _ _ _ ?_
              clear hK K
              refine vc_ret ⟨.inr rfl, ?_⟩
              refine ⟨.tuple #[.agg #[.slice (some ⟨14, 0, none⟩) l2.length c10], .slice none 0 0, .int .i64 0], rfl, vl_cut ?_⟩
              refine vl_rest ?_
              refine run_end (z := false) fun K' hK' => hK' _ _ _ (hK _ _ _ ?_)
              clear hK' K' hK K
              refine vc_seq ?_
              refine vc_reg (by kernel_rfl) fun K hK => ?_
              refine run_n (z := false) 10 (fun K' hK' => hK' _ _ _ ?_) (by decide)
              clear hK' K'
              refine run_ro (fun k => if k = 0 then (14, 0) else (4, 0)) (same_ro l2 c10 c9 (by omega)) ?_ rfl rfl rfl rfl ?_
              · intro x hx
                simp only [List.mem_cons, List.mem_singleton, List.not_mem_nil, or_false] at hx
                rcases hx with rfl | rfl
                · exact ⟨_, _, _, rfl, get_zero_app⟩
                · exact ⟨_, _, _, rfl, fun i v hv => (congrArg (fun k => (rws rc l2)[k]?) (Nat.zero_add i)).trans hv⟩
              refine run_end (z := false) fun K' hK' => hK' _ _ _ (hK _ _ _ ?_)
              clear hK' K' hK K
              refine vc_ret ⟨.inr rfl, ?_⟩
              exact fin_bb (by rw [hlen]; simp)
theorem p7nil : Pure 7 [qnil] (.bool true) := by
  refine pure_of Try.func7 rfl Try.ntmps7 (by kernel_rfl) rfl (by simp) rfl ?_
  refine vc_seq ?_
  refine vc_go (by kernel_rfl) fun K hK => hK _ _ _ ?_
  clear hK K
  refine vc_seq ?_
  refine vc_seq ?_
  refine vc_reg (by kernel_rfl) fun K hK => ?_
  refine run_call (p38) rfl rfl rfl rfl ?_
  refine run_end (z := false) fun K' hK' => hK' _ _ _ (hK _ _ _ ?_)
  clear hK' K' hK K
  refine vc_cond (t := false) rfl (fun h => by cases h) (fun _ => ?_)
  refine vc_skip ?_
  refine vc_seq ?_
  refine vc_reg (by kernel_rfl) fun K hK => ?_
  refine run_n (z := false) 1 (fun K' hK' => hK' _ _ _ ?_) (by decide)
  clear hK' K'
  refine run_fc (fun k => (k, 0)) p39nil (hasF trivial rfl) rfl rfl rfl rfl ⟨_, _, rfl, rfl⟩ ?_
  rintro _ _ ⟨rfl, rfl⟩
  refine run_end (z := false) fun K' hK' => hK' _ _ _ (hK _ _ _ ?_)
  clear hK' K' hK K
  obtain ⟨c2, hc2⟩ : ∃ c2, c2 = 0 := ⟨_, rfl⟩
  obtain ⟨l, hll⟩ : ∃ l : List Rn, l = [] := ⟨_, rfl⟩
  have hlc : l.length ≤ c2 := by rw [hll]; exact Nat.zero_le _
  have hl : l.length ≤ 17 := by rw [hll]; decide
  refine renF (fun k => if k = 0 then 3 else 2) [(3, .pointer (some ⟨0, 0, none⟩))] [(0, .cells [.slice (some ⟨1, 0, none⟩) l.length c2] 55 true), (1, .cells (rws rc l) 67 false)] 2 (by decide) (fun m hm => absurd hm (Nat.not_lt_zero m)) ⟨rfl, trivial⟩ (by subst hll; subst hc2; exact ⟨sf_own rfl rfl, sf_winp (rcs_plain _) rfl get_zero, trivial⟩) rfl (bdH_b (by decide) rfl (bdH_c (by decide) (rcs_plain l) rfl)) rfl ?_
  refine vc_seq ?_
  have h40 := p40 l c2 (by omega)
  have h47 := p47 l c2 (by omega)
  obtain ⟨x, hx⟩ : ∃ x, x = accV (topQ l) := ⟨_, rfl⟩
  obtain ⟨tb, htb⟩ : ∃ tb, tb = (topQ l).isSome := ⟨_, rfl⟩
  rw [← hx, ← htb] at h40
  refine vc_reg (by kernel_rfl) fun K hK => ?_
  refine run_n (z := false) 1 (fun K' hK' => hK' _ _ _ ?_) (by decide)
  clear hK' K'
  refine run_ro (fun _ => (1, 0)) (h40) ?_ rfl rfl rfl rfl ?_
  · intro x hx
    simp only [List.mem_singleton] at hx
    subst hx
    exact ⟨_, _, _, rfl, fun i v hv => by rw [Nat.zero_add]; exact hv⟩
  refine run_end (z := false) fun K' hK' => hK' _ _ _ (hK _ _ _ ?_)
  clear hK' K' hK K
  refine renF (fun k => if k = 2 then 7 else k) [(3, .pointer (some ⟨0, 0, none⟩)), (4, .pointer (some ⟨2, 0, none⟩)), (5, .bool tb)] [(0, .cells [.slice (some ⟨1, 0, none⟩) l.length c2] 55 true), (1, .cells (rws rc l) 67 false), (2, .cells (frc x.1 x.2) 58 true)] 3 (by decide) (fun m hm => absurd hm (Nat.not_lt_zero m)) ⟨rfl, rfl, rfl, trivial⟩ ⟨sf_own rfl rfl, sf_winp (rcs_plain l) rfl get_zero, sf_ownp (by rfl) rfl rfl, trivial⟩ rfl (bdH_b (by decide) rfl (bdH_c (by decide) (rcs_plain l) (bdH_c (by decide) (by rfl) rfl))) rfl ?_
  refine vc_seq ?_
  rcases clip4 l with hq | ⟨hq, hb⟩ | ⟨hq, hb, hn⟩ | ⟨hq, hb, hn⟩
  · rw [chk1_no hq] at h47
    refine vc_regL (by kernel_rfl) fun K hK => ?_
    refine vl_pre 1 ?_
    refine run_end (z := false) fun K' hK' => hK' _ _ _ ?_
    clear hK' K'
    refine vl_inl (vs := [qv 1 l.length c2]) Try.func41 rfl Try.ntmps41 (by kernel_rfl) rfl rfl rfl (Nat.le_of_ble_eq_true rfl) rfl ?_
    refine vc_seq ?_
    refine vc_go (by kernel_rfl) fun K hK => hK _ _ _ ?_
    clear hK K
    refine vc_seq ?_
    refine vc_go (by kernel_rfl) fun K hK => hK _ _ _ ?_
    clear hK K
    refine vc_seq ?_
    refine vc_regL (by kernel_rfl) fun K hK => ?_
    refine vl_pre 2 ?_
    refine run_end (z := false) fun K' hK' => hK' _ _ _ ?_
    clear hK' K'
    refine vl_inl (vs := [qv 1 l.length c2, .func (.func 89) #[] #[.pointer (some ⟨5, 0, none⟩)]]) Try.func88 rfl Try.ntmps88 (by kernel_rfl) rfl rfl rfl (Nat.le_of_ble_eq_true rfl) rfl ?_
    refine vc_seq ?_
    refine vc_go (by kernel_rfl) fun K hK => hK _ _ _ ?_
    clear hK K
    refine vc_seq ?_
    refine vc_seq ?_
    refine vc_reg (by kernel_rfl) fun K hK => ?_
    refine run_n (z := false) 1 (fun K' hK' => hK' _ _ _ ?_) (by decide)
    clear hK' K'
    refine run_ro (fun _ => (1, 0)) (h47) ?_ rfl rfl rfl rfl ?_
    · intro x hx
      simp only [List.mem_singleton] at hx
      subst hx
      exact ⟨_, _, _, rfl, fun i v hv => by rw [Nat.zero_add]; exact hv⟩
    refine run_end (z := false) fun K' hK' => hK' _ _ _ (hK _ _ _ ?_)
    clear hK' K' hK K
    refine vc_seq ?_
    refine vc_go (by kernel_rfl) fun K hK => hK _ _ _ ?_
    clear hK K
    refine vc_cond (t := true) rfl (fun _ => ?_) (fun h => by cases h)
    refine vc_seq ?_
    refine vc_go (by kernel_rfl) fun K hK => hK _ _ _ ?_
    clear hK K
    refine vc_ret ⟨.inr rfl, ?_⟩
    refine ⟨.tuple #[.agg #[.slice none 0 0], .int .i64 200], rfl, vl_cut ?_⟩
    refine vl_rest ?_
    refine run_end (z := false) fun K' hK' => hK' _ _ _ (hK _ _ _ ?_)
    clear hK' K' hK K
    refine vc_seq ?_
    refine vc_seq ?_
    refine vc_go (by kernel_rfl) fun K hK => hK _ _ _ ?_
    clear hK K
    refine vc_cond (t := true) rfl (fun _ => ?_) (fun h => by cases h)
    refine vc_go (by kernel_rfl) fun K hK => hK _ _ _ ?_
    clear hK K
    refine vc_seq ?_
    refine vc_goD [(1, 3)] (by kernel_rfl) (by kernel_rfl) fun K hK => hK _ _ _ _ ?_
    clear hK K
    refine vc_ret ⟨.inr rfl, ?_⟩
    refine ⟨.tuple #[.agg #[.slice none 0 0], .slice none 0 0, .int .i64 200], rfl, vl_cut ?_⟩
    refine vl_rest ?_
    refine run_end (z := false) fun K' hK' => hK' _ _ _ (hK _ _ _ ?_)
    clear hK' K' hK K
    refine vc_seq ?_
    refine vc_seq ?_
    refine vc_go (by kernel_rfl) fun K hK => hK _ _ _ ?_
    clear hK K
    refine vc_cond (t := true) rfl (fun _ => ?_) (fun h => by cases h)
    refine vc_seq ?_
    refine vc_go (by kernel_rfl) fun K hK => hK _ _ _ ?_
    clear hK K
    exact vc_ret ⟨.inr rfl, rfl⟩
  · rw [topQ_yes hq] at hx htb
    rw [chk1_yes hq] at h47
    rw [← hx] at hb
    have h89 := fun c9 hc9 => p89e (l := l) (c := c9) (sp := zrow (c9 - l.length) z5) (by omega) hc9 (zrow_plain rfl _) hq hx hb
    refine vc_regL (by kernel_rfl) fun K hK => ?_
    refine vl_pre 1 ?_
    refine run_end (z := false) fun K' hK' => hK' _ _ _ ?_
    clear hK' K'
    refine vl_inl (vs := [qv 1 l.length c2]) Try.func41 rfl Try.ntmps41 (by kernel_rfl) rfl rfl rfl (Nat.le_of_ble_eq_true rfl) rfl ?_
    refine vc_seq ?_
    refine vc_go (by kernel_rfl) fun K hK => hK _ _ _ ?_
    clear hK K
    refine vc_seq ?_
    refine vc_go (by kernel_rfl) fun K hK => hK _ _ _ ?_
    clear hK K
    refine vc_seq ?_
    refine vc_regL (by kernel_rfl) fun K hK => ?_
    refine vl_pre 2 ?_
    refine run_end (z := false) fun K' hK' => hK' _ _ _ ?_
    clear hK' K'
    refine vl_inl (vs := [qv 1 l.length c2, .func (.func 89) #[] #[.pointer (some ⟨5, 0, none⟩)]]) Try.func88 rfl Try.ntmps88 (by kernel_rfl) rfl rfl rfl (Nat.le_of_ble_eq_true rfl) rfl ?_
    refine vc_seq ?_
    refine vc_go (by kernel_rfl) fun K hK => hK _ _ _ ?_
    clear hK K
    refine vc_seq ?_
    refine vc_seq ?_
    refine vc_reg (by kernel_rfl) fun K hK => ?_
    refine run_n (z := false) 1 (fun K' hK' => hK' _ _ _ ?_) (by decide)
    clear hK' K'
    refine run_ro (fun _ => (1, 0)) (h47) ?_ rfl rfl rfl rfl ?_
    · intro x hx
      simp only [List.mem_singleton] at hx
      subst hx
      exact ⟨_, _, _, rfl, fun i v hv => by rw [Nat.zero_add]; exact hv⟩
    refine run_end (z := false) fun K' hK' => hK' _ _ _ (hK _ _ _ ?_)
    clear hK' K' hK K
    refine vc_seq ?_
    refine vc_go (by kernel_rfl) fun K hK => hK _ _ _ ?_
    clear hK K
    refine vc_cond (t := false) rfl (fun h => by cases h) (fun _ => ?_)
    refine vc_skip ?_
    refine vc_seq ?_
    refine vc_reg (by kernel_rfl) fun K hK => ?_
    refine run_n (z := false) 2 (fun K' hK' => hK' _ _ _ ?_) (by decide)
    clear hK' K'
    refine run_fc (fun k => (1, 0)) (p118 c2 (by omega)) (hasF ⟨sf_winp (rcs_plain l) rfl get_zero, trivial⟩ rfl) rfl rfl rfl rfl ⟨_, _, l.length, Nat.le_refl _, rfl, rfl⟩ ?_
    rintro _ _ ⟨c9, hc9, rfl, rfl⟩
    rw [renU_c (renB_p (spare_plain l _)) renU_nil]
    refine run_end (z := false) fun K' hK' => hK' _ _ _ (hK _ _ _ ?_)
    clear hK' K' hK K
    refine vc_seq ?_
    refine vc_seq ?_
    refine vc_reg (by kernel_rfl) fun K hK => ?_
    refine run_n (z := false) 1 (fun K' hK' => hK' _ _ _ ?_) (by decide)
    clear hK' K'
    refine run_fc (fun k => if k = 0 then (12, 0) else if k = 1 then (10, 0) else (5, 0)) (h89 c9 hc9) (hasF ⟨sf_own rfl rfl, sf_ownp (spare_plain l _) rfl rfl, sf_own rfl rfl, trivial⟩ rfl) rfl rfl rfl rfl ⟨_, _, rfl, l, rfl, .inl rfl⟩ ?_
    rintro _ _ ⟨rfl, l2, hl2, rfl | ⟨Q, c3, sp3, hp3, rfl⟩⟩
    · unfold U0
      rw [renU_c rfl (renU_c (renB_p (plainL_append (rcs_plain _) (zrow_plain rfl _))) (renU_c rfl renU_nil))]
      refine run_end (z := false) fun K' hK' => hK' _ _ _ (hK _ _ _ ?_)
      clear hK' K' hK K
      refine vc_seq ?_
      refine vc_go (by kernel_rfl) fun K hK => hK _ _ _ ?_
      clear hK K
      refine vc_cond (t := true) rfl (fun _ => ?_) (fun h => by cases h)
      refine vc_seq ?_
      refine vc_go (by kernel_rfl) fun K hK => hK _ _ _ ?_
      clear hK K
      refine vc_ret ⟨.inr rfl, ?_⟩
      refine ⟨.tuple #[.agg #[.slice none 0 0], .int .i64 131], rfl, vl_cut ?_⟩
      refine vl_rest ?_
      refine run_end (z := false) fun K' hK' => hK' _ _ _ (hK _ _ _ ?_)
      clear hK' K' hK K
      refine vc_seq ?_
      refine vc_seq ?_
      refine vc_go (by kernel_rfl) fun K hK => hK _ _ _ ?_
      clear hK K
      refine vc_cond (t := true) rfl (fun _ => ?_) (fun h => by cases h)
      refine vc_go (by kernel_rfl) fun K hK => hK _ _ _ ?_
      clear hK K
      refine vc_seq ?_
      refine vc_goD [(1, 3)] (by kernel_rfl) (by kernel_rfl) fun K hK => hK _ _ _ _ ?_
      clear hK K
      refine vc_ret ⟨.inr rfl, ?_⟩
      refine ⟨.tuple #[.agg #[.slice none 0 0], .slice none 0 0, .int .i64 131], rfl, vl_cut ?_⟩
      refine vl_rest ?_
      refine run_end (z := false) fun K' hK' => hK' _ _ _ (hK _ _ _ ?_)
      clear hK' K' hK K
      refine vc_seq ?_
      refine vc_seq ?_
      refine vc_go (by kernel_rfl) fun K hK => hK _ _ _ ?_
      clear hK K
      refine vc_cond (t := true) rfl (fun _ => ?_) (fun h => by cases h)
      refine vc_seq ?_
      refine vc_go (by kernel_rfl) fun K hK => hK _ _ _ ?_
      clear hK K
      exact vc_ret ⟨.inr rfl, rfl⟩
    · unfold U1
      rw [renU_c rfl (renU_c (renB_p (plainL_append (rcs_plain _) (zrow_plain rfl _))) (renU_c rfl (renU_c (renB_p (plainL_append (ics_plain _) hp3)) renU_nil)))]
      refine run_end (z := false) fun K' hK' => hK' _ _ _ (hK _ _ _ ?_)
      clear hK' K' hK K
      refine vc_seq ?_
      refine vc_go (by kernel_rfl) fun K hK => hK _ _ _ ?_
      clear hK K
      refine vc_cond (t := true) rfl (fun _ => ?_) (fun h => by cases h)
      refine vc_seq ?_
      refine vc_go (by kernel_rfl) fun K hK => hK _ _ _ ?_
      clear hK K
      refine vc_ret ⟨.inr rfl, ?_⟩
      refine ⟨.tuple #[.agg #[.slice none 0 0], .int .i64 131], rfl, vl_cut ?_⟩
      refine vl_rest ?_
      refine run_end (z := false) fun K' hK' => hK' _ _ _ (hK _ _ _ ?_)
      clear hK' K' hK K
      refine vc_seq ?_
      refine vc_seq ?_
      refine vc_go (by kernel_rfl) fun K hK => hK _ _ _ ?_
      clear hK K
      refine vc_cond (t := true) rfl (fun _ => ?_) (fun h => by cases h)
      refine vc_go (by kernel_rfl) fun K hK => hK _ _ _ ?_
      clear hK K
      refine vc_seq ?_
      refine vc_goD [(1, 3)] (by kernel_rfl) (by kernel_rfl) fun K hK => hK _ _ _ _ ?_
      clear hK K
      refine vc_ret ⟨.inr rfl, ?_⟩
      refine ⟨.tuple #[.agg #[.slice none 0 0], .slice none 0 0, .int .i64 131], rfl, vl_cut ?_⟩
      refine vl_rest ?_
      refine run_end (z := false) fun K' hK' => hK' _ _ _ (hK _ _ _ ?_)
      clear hK' K' hK K
      refine vc_seq ?_
      refine vc_seq ?_
      refine vc_go (by kernel_rfl) fun K hK => hK _ _ _ ?_
      clear hK K
      refine vc_cond (t := true) rfl (fun _ => ?_) (fun h => by cases h)
      refine vc_seq ?_
      refine vc_go (by kernel_rfl) fun K hK => hK _ _ _ ?_
      clear hK K
      exact vc_ret ⟨.inr rfl, rfl⟩
  · rw [topQ_yes hq] at hx htb
    rw [chk1_yes hq] at h47
    rw [← hx] at hb hn
    have h89 := fun c9 hc9 => p89n (l := l) (c := c9) (sp := zrow (c9 - l.length) z5) (by omega) hc9 (zrow_plain rfl _) hq hx hb hn
    have htb2 := tb2 hq hx htb
    obtain ⟨hq2, htop2, hI2, hQ2, hb2⟩ := again hq hx hb
    obtain ⟨l2, hl2⟩ : ∃ l2, l2 = clQ x l := ⟨_, rfl⟩
    have hlen : l2.length = l.length := by rw [hl2, clQ_len]
    have hSl := clI_len (x := x) (l := l)
    simp only [← hl2] at h89
    rw [← hl2] at hq2 htop2 hI2 hQ2 hb2
    have h47b := fun c => p47 l2 c (by omega)
    simp only [chk1_yes hq2] at h47b
    have h40b := fun c => p40 l2 c (by omega)
    simp only [topQ_yes hq2, htop2, ← hx, ← htb] at h40b
    have hx2 : x = accV (topS none l2) := by rw [htop2]; exact hx
    have h89b := fun c9 hc9 => p89n (l := l2) (c := c9) (sp := zrow (c9 - l2.length) z5) (by omega) hc9 (zrow_plain rfl _) hq2 hx2 hb2 hI2
    simp only [hQ2] at h89b
    refine vc_regL (by kernel_rfl) fun K hK => ?_
    refine vl_pre 1 ?_
    refine run_end (z := false) fun K' hK' => hK' _ _ _ ?_
    clear hK' K'
    refine vl_inl (vs := [qv 1 l.length c2]) Try.func41 rfl Try.ntmps41 (by kernel_rfl) rfl rfl rfl (Nat.le_of_ble_eq_true rfl) rfl ?_
    refine vc_seq ?_
    refine vc_go (by kernel_rfl) fun K hK => hK _ _ _ ?_
    clear hK K
    refine vc_seq ?_
    refine vc_go (by kernel_rfl) fun K hK => hK _ _ _ ?_
    clear hK K
    refine vc_seq ?_
    refine vc_regL (by kernel_rfl) fun K hK => ?_
    refine vl_pre 2 ?_
    refine run_end (z := false) fun K' hK' => hK' _ _ _ ?_
    clear hK' K'
    refine vl_inl (vs := [qv 1 l.length c2, .func (.func 89) #[] #[.pointer (some ⟨5, 0, none⟩)]]) Try.func88 rfl Try.ntmps88 (by kernel_rfl) rfl rfl rfl (Nat.le_of_ble_eq_true rfl) rfl ?_
    refine vc_seq ?_
    refine vc_go (by kernel_rfl) fun K hK => hK _ _ _ ?_
    clear hK K
    refine vc_seq ?_
    refine vc_seq ?_
    refine vc_reg (by kernel_rfl) fun K hK => ?_
    refine run_n (z := false) 1 (fun K' hK' => hK' _ _ _ ?_) (by decide)
    clear hK' K'
    refine run_ro (fun _ => (1, 0)) (h47) ?_ rfl rfl rfl rfl ?_
    · intro x hx
      simp only [List.mem_singleton] at hx
      subst hx
      exact ⟨_, _, _, rfl, fun i v hv => by rw [Nat.zero_add]; exact hv⟩
    refine run_end (z := false) fun K' hK' => hK' _ _ _ (hK _ _ _ ?_)
    clear hK' K' hK K
    refine vc_seq ?_
    refine vc_go (by kernel_rfl) fun K hK => hK _ _ _ ?_
    clear hK K
    refine vc_cond (t := false) rfl (fun h => by cases h) (fun _ => ?_)
    refine vc_skip ?_
    refine vc_seq ?_
    refine vc_reg (by kernel_rfl) fun K hK => ?_
    refine run_n (z := false) 2 (fun K' hK' => hK' _ _ _ ?_) (by decide)
    clear hK' K'
    refine run_fc (fun k => (1, 0)) (p118 c2 (by omega)) (hasF ⟨sf_winp (rcs_plain l) rfl get_zero, trivial⟩ rfl) rfl rfl rfl rfl ⟨_, _, l.length, Nat.le_refl _, rfl, rfl⟩ ?_
    rintro _ _ ⟨c9, hc9, rfl, rfl⟩
    rw [renU_c (renB_p (spare_plain l _)) renU_nil]
    refine run_end (z := false) fun K' hK' => hK' _ _ _ (hK _ _ _ ?_)
    clear hK' K' hK K
    refine vc_seq ?_
    refine vc_seq ?_
    refine vc_reg (by kernel_rfl) fun K hK => ?_
    refine run_n (z := false) 1 (fun K' hK' => hK' _ _ _ ?_) (by decide)
    clear hK' K'
    refine run_fc (fun k => if k = 0 then (12, 0) else if k = 1 then (10, 0) else (5, 0)) (h89 c9 hc9) (hasF ⟨sf_own rfl rfl, sf_ownp (spare_plain l _) rfl rfl, sf_own rfl rfl, trivial⟩ rfl) rfl rfl rfl rfl ⟨_, _, rfl, rfl⟩ ?_
    rintro _ _ ⟨rfl, rfl⟩
    rw [renU_c rfl (renU_c (renB_p (plainL_append (rcs_plain _) (zrow_plain rfl _))) (renU_c rfl renU_nil))]
    refine run_end (z := false) fun K' hK' => hK' _ _ _ (hK _ _ _ ?_)
    clear hK' K' hK K
    refine vc_seq ?_
    refine vc_go (by kernel_rfl) fun K hK => hK _ _ _ ?_
    clear hK K
    refine vc_cond (t := false) rfl (fun h => by cases h) (fun _ => ?_)
    refine vc_skip ?_
    refine vc_seq ?_
    refine vc_go (by kernel_rfl) fun K hK => hK _ _ _ ?_
    clear hK K
    refine vc_ret ⟨.inr rfl, ?_⟩
    refine ⟨.tuple #[.agg #[.slice (some ⟨10, 0, none⟩) l2.length c9], .int .i64 0], rfl, vl_cut ?_⟩
    refine vl_rest ?_
    refine run_end (z := false) fun K' hK' => hK' _ _ _ (hK _ _ _ ?_)
    clear hK' K' hK K
    refine vc_seq ?_
    refine vc_seq ?_
    refine vc_go (by kernel_rfl) fun K hK => hK _ _ _ ?_
    clear hK K
    refine vc_cond (t := false) rfl (fun h => by cases h) (fun _ => ?_)
    refine vc_skip ?_
    refine vc_seq ?_
    refine vc_goD [(1, 3)] (by kernel_rfl) (by kernel_rfl) fun K hK => hK _ _ _ _ ?_
    clear hK K
    refine vc_ret ⟨.inr rfl, ?_⟩
    refine ⟨.tuple #[.agg #[.slice (some ⟨10, 0, none⟩) l2.length c9], .slice none 0 0, .int .i64 0], rfl, vl_cut ?_⟩
    refine vl_rest ?_
    refine run_end (z := false) fun K' hK' => hK' _ _ _ (hK _ _ _ ?_)
    clear hK' K' hK K
    refine renF (fun k => if k = 3 then 21 else if k = 4 then 10 else k) [(3, .pointer (some ⟨0, 0, none⟩)), (4, .pointer (some ⟨2, 0, none⟩)), (5, .bool tb), (6, .pointer (some ⟨3, 0, none⟩)), (7, .slice none 0 0), (8, .int .i64 0)] [(0, .cells [.slice (some ⟨1, 0, none⟩) l.length c2] 55 true), (1, .cells (rws rc l) 67 false), (2, .cells (frc x.1 x.2) 58 true), (3, .cells [.slice (some ⟨4, 0, none⟩) l2.length c9] 55 true), (4, .cells (rws rc l2) 67 false)] 5 (by decide) (fun m hm => absurd hm (Nat.not_lt_zero m)) ⟨rfl, rfl, rfl, rfl, rfl, rfl, trivial⟩ ⟨sf_own rfl rfl, sf_winp (rcs_plain l) rfl get_zero, sf_ownp (by rfl) rfl rfl, sf_own rfl rfl, sf_winp (rcs_plain l2) rfl get_zero_app, trivial⟩ rfl (bdH_b (by decide) rfl (bdH_c (by decide) (rcs_plain l) (bdH_c (by decide) (by rfl) (bdH_b (by decide) rfl (bdH_c (by decide) (rcs_plain l2) rfl))))) rfl ?_
    refine vc_seq ?_
    refine vc_seq ?_
    refine vc_go (by kernel_rfl) fun K hK => hK _ _ _ ?_
    clear hK K
    refine vc_cond (t := false) rfl (fun h => by cases h) (fun _ => ?_)
    refine vc_skip ?_
    refine vc_seq ?_
    refine vc_reg (by kernel_rfl) fun K hK => ?_
    refine run_n (z := false) 1 (fun K' hK' => hK' _ _ _ ?_) (by decide)
    clear hK' K'
    refine run_ro (fun _ => (4, 0)) ((h40b c9)) ?_ rfl rfl rfl rfl ?_
    · intro x hx
      simp only [List.mem_singleton] at hx
      subst hx
      exact ⟨_, _, _, rfl, fun i v hv => by rw [Nat.zero_add]; exact hv⟩
    refine run_end (z := false) fun K' hK' => hK' _ _ _ (hK _ _ _ ?_)
    clear hK' K' hK K
    refine vc_seq ?_
    refine vc_mid (fun s => s = can [(3, .pointer (some ⟨0, 0, none⟩)), (4, .pointer (some ⟨2, 0, none⟩)), (6, .pointer (some ⟨3, 0, none⟩)), (7, .slice none 0 0)] [(0, .cells [.slice (some ⟨1, 0, none⟩) l.length c2] 55 true), (1, .cells (rws rc l) 67 false), (2, .cells (frc x.1 x.2) 58 true), (3, .cells [.slice (some ⟨4, 0, none⟩) l2.length c9] 55 true), (4, .cells (rws rc l2) 67 false)] 5) ?_ ?_
    · skip
      refine vc_seq ?_
      rcases htb2 with rfl | ⟨rfl, hxx⟩
      · skip
        refine vc_reg (by kernel_rfl) fun K hK => ?_
        refine run_n (z := false) 6 (fun K' hK' => hK' _ _ _ ?_) (by decide)
        clear hK' K'
        refine vgo_known 54 (b := false) (rfl) ?_
        refine run_end (z := false) fun K' hK' => hK' _ _ _ (hK _ _ _ ?_)
        clear hK' K' hK K
        refine vc_cond (t := false) rfl (fun h => by cases h) (fun _ => ?_)
        refine vc_skip ?_
        exact ⟨rfl, _, fg_focus [(3, .pointer (some ⟨0, 0, none⟩)), (4, .pointer (some ⟨2, 0, none⟩)), (6, .pointer (some ⟨3, 0, none⟩)), (7, .slice none 0 0)] [(0, .cells [.slice (some ⟨1, 0, none⟩) l.length c2] 55 true), (1, .cells (rws rc l) 67 false), (2, .cells (frc x.1 x.2) 58 true), (3, .cells [.slice (some ⟨4, 0, none⟩) l2.length c9] 55 true), (4, .cells (rws rc l2) 67 false)] 5 (by decide) ⟨rfl, rfl, rfl, rfl, trivial⟩ ⟨sb rfl, sb rfl, sb rfl, sb rfl, sb rfl, trivial⟩ rfl (bdH_b (by decide) rfl (bdH_c (by decide) (rcs_plain l) (bdH_c (by decide) (by rfl) (bdH_b (by decide) rfl (bdH_c (by decide) (rcs_plain l2) rfl))))), rfl⟩
      · have h42x := p42y hxx hxx
        rw [cmp_zero] at h42x
        refine vc_reg (by kernel_rfl) fun K hK => ?_
        refine run_n (z := false) 8 (fun K' hK' => hK' _ _ _ ?_) (by decide)
        clear hK' K'
        refine run_call (h42x) rfl rfl rfl rfl ?_
        refine run_end (z := false) fun K' hK' => hK' _ _ _ (hK _ _ _ ?_)
        clear hK' K' hK K
        refine vc_cond (t := false) rfl (fun h => by cases h) (fun _ => ?_)
        refine vc_skip ?_
        exact ⟨rfl, _, fg_focus [(3, .pointer (some ⟨0, 0, none⟩)), (4, .pointer (some ⟨2, 0, none⟩)), (6, .pointer (some ⟨3, 0, none⟩)), (7, .slice none 0 0)] [(0, .cells [.slice (some ⟨1, 0, none⟩) l.length c2] 55 true), (1, .cells (rws rc l) 67 false), (2, .cells (frc x.1 x.2) 58 true), (3, .cells [.slice (some ⟨4, 0, none⟩) l2.length c9] 55 true), (4, .cells (rws rc l2) 67 false)] 5 (by decide) ⟨rfl, rfl, rfl, rfl, trivial⟩ ⟨sb rfl, sb rfl, sb rfl, sb rfl, sb rfl, trivial⟩ rfl (bdH_b (by decide) rfl (bdH_c (by decide) (rcs_plain l) (bdH_c (by decide) (by rfl) (bdH_b (by decide) rfl (bdH_c (by decide) (rcs_plain l2) rfl))))), rfl⟩
    · skip
      rintro s2 rfl
      refine vc_seq ?_
      refine vc_reg (by kernel_rfl) fun K hK => ?_
      refine run_sp (sp_mkMap rfl) rfl rfl rfl ⟨_, _, rfl, rfl⟩ ?_
      rintro _ _ ⟨rfl, rfl⟩
      refine run_end (z := false) fun K' hK' => hK' _ _ _ (hK _ _ _ ?_)
      clear hK' K' hK K
      refine vc_seq ?_
      refine vc_seq ?_
      refine vc_go (by kernel_rfl) fun K hK => hK _ _ _ ?_
      clear hK K
      refine vc_block ?_
      refine vc_rounds 1 ?_
      refine vc_seq ?_
      refine vc_go (by kernel_rfl) fun K hK => hK _ _ _ ?_
      clear hK K
      refine vc_seq ?_
      refine vc_cond (t := false) rfl (fun h => by cases h) (fun _ => ?_)
      refine vc_exit ?_
      refine vc_seq ?_
      refine vc_seq ?_
      refine vc_go (by kernel_rfl) fun K hK => hK _ _ _ ?_
      clear hK K
      refine vc_block ?_
      refine vc_loopF (fun n s => ∃ i : Nat, n = l2.length - i ∧ i ≤ l2.length ∧ s = can [(3, .pointer (some ⟨0, 0, none⟩)), (4, .pointer (some ⟨2, 0, none⟩)), (6, .pointer (some ⟨3, 0, none⟩)), (11, .map (some 5)), (72, .slice (some ⟨4, 0, none⟩) l2.length c9), (73, .int .i64 (l2.length : Int)), (74, .int .i64 ((i : Nat) : Int))] [(0, .cells [.slice (some ⟨1, 0, none⟩) l.length c2] 55 true), (1, .cells (rws rc l) 67 false), (2, .cells (frc x.1 x.2) 58 true), (3, .cells [.slice (some ⟨4, 0, none⟩) l2.length c9] 55 true), (4, .cells (rws rc l2) 67 false), (5, .obj (mS []))] 6) l2.length ?_ ?_
      · exact ⟨_, fg_focus [(3, .pointer (some ⟨0, 0, none⟩)), (4, .pointer (some ⟨2, 0, none⟩)), (6, .pointer (some ⟨3, 0, none⟩)), (11, .map (some 5)), (72, .slice (some ⟨4, 0, none⟩) l2.length c9), (73, .int .i64 (l2.length : Int)), (74, .int .i64 ((0 : Nat) : Int))] [(0, .cells [.slice (some ⟨1, 0, none⟩) l.length c2] 55 true), (1, .cells (rws rc l) 67 false), (2, .cells (frc x.1 x.2) 58 true), (3, .cells [.slice (some ⟨4, 0, none⟩) l2.length c9] 55 true), (4, .cells (rws rc l2) 67 false), (5, .obj (mS []))] 6 (by decide) ⟨rfl, rfl, rfl, rfl, rfl, rfl, rfl, trivial⟩ ⟨sb rfl, sb rfl, sb rfl, sb rfl, sb rfl, sb rfl, trivial⟩ rfl (bdH_b (by decide) rfl (bdH_c (by decide) (rcs_plain l) (bdH_c (by decide) (by rfl) (bdH_b (by decide) rfl (bdH_c (by decide) (rcs_plain l2) (bdH_b (by decide) rfl rfl)))))), 0, rfl, Nat.zero_le _, rfl⟩
      · rintro n s ⟨i, hn3, hi, rfl⟩
        refine vc_seq ?_
        refine vc_go (by kernel_rfl) fun K hK => hK _ _ _ ?_
        clear hK K
        refine vc_seq ?_
        refine vc_cond rfl (fun c1 => ?_) (fun c1 => ?_)
        · -- cond 8 t75 true
          refine vc_skip ?_
          refine vc_seq ?_
          refine vc_block ?_
          refine vc_seq ?_
          have hlt := len_le c1
          have hlt1 : i < l.length := by rw [← hlen]; exact hlt
          obtain ⟨r, hr⟩ : ∃ r, l[i]? = some r := ⟨l[i], List.getElem?_eq_getElem hlt1⟩
          have hrl := List.mem_of_getElem? hr
          obtain ⟨_, hxr⟩ := top_in hq hrl
          rw [← hx] at hxr
          have hrr := okR_rt (okq_mem hq r hrl)
          have h43 := p43 l c2 r.id (by omega)
          rw [(at_of hq hr).2.2] at h43
          simp only [Option.getD_some, Option.isSome_some] at h43
          have hmem := clI_mem (x := x) hq hr
          rw [hn] at hmem
          have hM : l2[i]? = some (clR x r) := by rw [hl2]; exact clQ_get hr
          have h44r := p44y (s := SLK) hrr hxr (by decide)
          cases hg : clG x r
          · rw [clR_no hg] at hM
            rw [hg] at hmem
            rw [show bh r.n r.w x.1 x.2 SLK = false from hg] at h44r
            refine vc_reg (by kernel_rfl) fun K hK => ?_
            refine run_op (vex_ixs (j := i) rfl rfl rfl hlt rfl rfl) rfl ?_
            refine run_rd (vex_ldr rc_len (j := 0) (i := i) (d := rc r) rfl (Nat.zero_add _) rfl (rws_win rc l2) rfl hM (by decide) rfl) rfl ?_
            refine run_end (z := false) fun K' hK' => hK' _ _ _ (hK _ _ _ ?_)
            clear hK' K' hK K
            refine vc_seq ?_
            refine vc_reg (by kernel_rfl) fun K hK => ?_
            refine run_n (z := false) 3 (fun K' hK' => hK' _ _ _ ?_) (by decide)
            clear hK' K'
            refine run_ro (fun _ => (1, 0)) (h43) ?_ rfl rfl rfl rfl ?_
            · intro x hx
              simp only [List.mem_singleton] at hx
              subst hx
              exact ⟨_, _, _, rfl, fun i v hv => by rw [Nat.zero_add]; exact hv⟩
            refine run_end (z := false) fun K' hK' => hK' _ _ _ (hK _ _ _ ?_)
            clear hK' K' hK K
            refine vc_seq ?_
            refine vc_regD [(12, 14), (12, 15), (11, 16), (12, 16)] (by kernel_rfl) (by kernel_rfl) fun K hK => ?_
            refine runD_n (z := false) 6 (fun K' hK' => hK' _ _ _ _ ?_) (by decide)
            clear hK' K'
            refine runD_call (h44r) rfl rfl rfl rfl ?_
            refine runD_n (z := false) 5 (fun K' hK' => hK' _ _ _ _ ?_) (by decide)
            clear hK' K'
            refine runD_rd (vex_look rfl rfl rfl hmem) rfl rfl ?_
            refine runD_n (z := false) 3 (fun K' hK' => hK' _ _ _ _ ?_) (by decide)
            clear hK' K'
            refine runD_call (h44r) rfl rfl rfl rfl ?_
            refine runD_n (z := false) 6 (fun K' hK' => hK' _ _ _ _ ?_) (by decide)
            clear hK' K'
            refine runD_rd (vex_look rfl rfl rfl hmem) rfl rfl ?_
            refine runD_n (z := false) 8 (fun K' hK' => hK' _ _ _ _ ?_) (by decide)
            clear hK' K'
            refine W_known 116 (b := false) (bb (by rw [rn_beq]; simp)) ?_
            refine runD_n (z := false) 3 (fun K' hK' => hK' _ _ _ _ ?_) (by decide)
            clear hK' K'
            refine runD_rd (vex_look rfl rfl rfl hmem) rfl rfl ?_
            refine runD_n (z := false) 1 (fun K' hK' => hK' _ _ _ _ ?_) (by decide)
            clear hK' K'
            refine W_known 121 (b := false) (rfl) ?_
            refine runD_end (z := false) fun K' hK' => hK' _ _ _ _ (hK _ _ _ ?_)
            clear hK' K' hK K
            refine vc_cond (t := false) rfl (fun h => by cases h) (fun _ => ?_)
            refine vc_skip ?_
            refine vc_go (by kernel_rfl) fun K hK => hK _ _ _ ?_
            clear hK K
            exact ⟨_, fg_focus [(3, .pointer (some ⟨0, 0, none⟩)), (4, .pointer (some ⟨2, 0, none⟩)), (6, .pointer (some ⟨3, 0, none⟩)), (11, .map (some 5)), (72, .slice (some ⟨4, 0, none⟩) l2.length c9), (73, .int .i64 (l2.length : Int)), (74, .int .i64 ((i + 1 : Nat) : Int))] [(0, .cells [.slice (some ⟨1, 0, none⟩) l.length c2] 55 true), (1, .cells (rws rc l) 67 false), (2, .cells (frc x.1 x.2) 58 true), (3, .cells [.slice (some ⟨4, 0, none⟩) l2.length c9] 55 true), (4, .cells (rws rc l2) 67 false), (5, .obj (mS []))] 6 (by decide) ⟨rfl, rfl, rfl, rfl, rfl, rfl, ii (wrapI (by omega) (by omega)), trivial⟩ ⟨sb rfl, sb rfl, sb rfl, sb rfl, sb rfl, sb rfl, trivial⟩ rfl (bdH_b (by decide) rfl (bdH_c (by decide) (rcs_plain l) (bdH_c (by decide) (by rfl) (bdH_b (by decide) rfl (bdH_c (by decide) (rcs_plain l2) (bdH_b (by decide) rfl rfl)))))), l2.length - (i + 1), by omega, i + 1, rfl, hlt, rfl⟩
          · rw [clR_yes hg] at hM
            rw [hg] at hmem
            rw [show bh r.n r.w x.1 x.2 SLK = true from hg] at h44r
            have hF := clB_no hg (hb r hrl)
            have hFr : rt (farN x.1 x.2 r.w) r.w = true := rt_mk (rt_wt hrr) hF
            have h44 := p44y (s := SLK) hFr hxr (by decide)
            rw [far_not (rt_w hxr).1] at h44
            have h42 := p42y hFr hrr
            rw [cmp_one (far_up (rt_w hxr).1 hg) (rt_w hrr).1] at h42
            refine vc_reg (by kernel_rfl) fun K hK => ?_
            refine run_op (vex_ixs (j := i) rfl rfl rfl hlt rfl rfl) rfl ?_
            refine run_rd (vex_ldr rc_len (j := 0) (i := i) (d := rc ({ r with n := farN x.1 x.2 r.w } : Rn)) rfl (Nat.zero_add _) rfl (rws_win rc l2) rfl hM (by decide) rfl) rfl ?_
            refine run_end (z := false) fun K' hK' => hK' _ _ _ (hK _ _ _ ?_)
            clear hK' K' hK K
            refine vc_seq ?_
            refine vc_reg (by kernel_rfl) fun K hK => ?_
            refine run_n (z := false) 3 (fun K' hK' => hK' _ _ _ ?_) (by decide)
            clear hK' K'
            refine run_ro (fun _ => (1, 0)) (h43) ?_ rfl rfl rfl rfl ?_
            · intro x hx
              simp only [List.mem_singleton] at hx
              subst hx
              exact ⟨_, _, _, rfl, fun i v hv => by rw [Nat.zero_add]; exact hv⟩
            refine run_end (z := false) fun K' hK' => hK' _ _ _ (hK _ _ _ ?_)
            clear hK' K' hK K
            refine vc_seq ?_
            refine vc_regD [(12, 14), (12, 15), (11, 16), (12, 16)] (by kernel_rfl) (by kernel_rfl) fun K hK => ?_
            refine runD_n (z := false) 6 (fun K' hK' => hK' _ _ _ _ ?_) (by decide)
            clear hK' K'
            refine runD_call (h44) rfl rfl rfl rfl ?_
            refine runD_n (z := false) 5 (fun K' hK' => hK' _ _ _ _ ?_) (by decide)
            clear hK' K'
            refine runD_rd (vex_look rfl rfl rfl hmem) rfl rfl ?_
            refine runD_n (z := false) 3 (fun K' hK' => hK' _ _ _ _ ?_) (by decide)
            clear hK' K'
            refine runD_call (h44r) rfl rfl rfl rfl ?_
            refine runD_n (z := false) 6 (fun K' hK' => hK' _ _ _ _ ?_) (by decide)
            clear hK' K'
            refine runD_rd (vex_look rfl rfl rfl hmem) rfl rfl ?_
            refine runD_n (z := false) 11 (fun K' hK' => hK' _ _ _ _ ?_) (by decide)
            clear hK' K'
            refine runD_rd (vex_look rfl rfl rfl hmem) rfl rfl ?_
            refine runD_n (z := false) 5 (fun K' hK' => hK' _ _ _ _ ?_) (by decide)
            clear hK' K'
            refine runD_call (h42) rfl rfl rfl rfl ?_
            refine runD_end (z := false) fun K' hK' => hK' _ _ _ _ (hK _ _ _ ?_)
            clear hK' K' hK K
            refine vc_cond (t := false) rfl (fun h => by cases h) (fun _ => ?_)
            refine vc_skip ?_
            refine vc_go (by kernel_rfl) fun K hK => hK _ _ _ ?_
            clear hK K
            exact ⟨_, fg_focus [(3, .pointer (some ⟨0, 0, none⟩)), (4, .pointer (some ⟨2, 0, none⟩)), (6, .pointer (some ⟨3, 0, none⟩)), (11, .map (some 5)), (72, .slice (some ⟨4, 0, none⟩) l2.length c9), (73, .int .i64 (l2.length : Int)), (74, .int .i64 ((i + 1 : Nat) : Int))] [(0, .cells [.slice (some ⟨1, 0, none⟩) l.length c2] 55 true), (1, .cells (rws rc l) 67 false), (2, .cells (frc x.1 x.2) 58 true), (3, .cells [.slice (some ⟨4, 0, none⟩) l2.length c9] 55 true), (4, .cells (rws rc l2) 67 false), (5, .obj (mS []))] 6 (by decide) ⟨rfl, rfl, rfl, rfl, rfl, rfl, ii (wrapI (by omega) (by omega)), trivial⟩ ⟨sb rfl, sb rfl, sb rfl, sb rfl, sb rfl, sb rfl, trivial⟩ rfl (bdH_b (by decide) rfl (bdH_c (by decide) (rcs_plain l) (bdH_c (by decide) (by rfl) (bdH_b (by decide) rfl (bdH_c (by decide) (rcs_plain l2) (bdH_b (by decide) rfl rfl)))))), l2.length - (i + 1), by omega, i + 1, rfl, hlt, rfl⟩
        · -- cond 8 t75 false
          refine vc_exit ?_
          refine vc_seq ?_
          refine vc_regL (by kernel_rfl) fun K hK => ?_
          refine vl_pre 1 ?_
          refine run_end (z := false) fun K' hK' => hK' _ _ _ ?_
          clear hK' K'
          refine vl_inl (vs := [qv 4 l2.length c9]) Try.func41 rfl Try.ntmps41 (by kernel_rfl) rfl rfl rfl (Nat.le_of_ble_eq_true rfl) rfl ?_
          refine vc_seq ?_
          refine vc_go (by kernel_rfl) fun K hK => hK _ _ _ ?_
          clear hK K
          refine vc_seq ?_
          refine vc_go (by kernel_rfl) fun K hK => hK _ _ _ ?_
          clear hK K
          refine vc_seq ?_
          refine vc_regL (by kernel_rfl) fun K hK => ?_
          refine vl_pre 2 ?_
          refine run_end (z := false) fun K' hK' => hK' _ _ _ ?_
          clear hK' K'
          refine vl_inl (vs := [qv 4 l2.length c9, .func (.func 89) #[] #[.pointer (some ⟨8, 0, none⟩)]]) Try.func88 rfl Try.ntmps88 (by kernel_rfl) rfl rfl rfl (Nat.le_of_ble_eq_true rfl) rfl ?_
          refine vc_seq ?_
          refine vc_go (by kernel_rfl) fun K hK => hK _ _ _ ?_
          clear hK K
          refine vc_seq ?_
          refine vc_seq ?_
          refine vc_reg (by kernel_rfl) fun K hK => ?_
          refine run_n (z := false) 1 (fun K' hK' => hK' _ _ _ ?_) (by decide)
          clear hK' K'
          refine run_ro (fun _ => (4, 0)) ((h47b c9)) ?_ rfl rfl rfl rfl ?_
          · intro x hx
            simp only [List.mem_singleton] at hx
            subst hx
            exact ⟨_, _, _, rfl, fun i v hv => by rw [Nat.zero_add]; exact hv⟩
          refine run_end (z := false) fun K' hK' => hK' _ _ _ (hK _ _ _ ?_)
          clear hK' K' hK K
          refine vc_seq ?_
          refine vc_go (by kernel_rfl) fun K hK => hK _ _ _ ?_
          clear hK K
          refine vc_cond (t := false) rfl (fun h => by cases h) (fun _ => ?_)
          refine vc_skip ?_
          refine vc_seq ?_
          refine vc_reg (by kernel_rfl) fun K hK => ?_
          refine run_n (z := false) 2 (fun K' hK' => hK' _ _ _ ?_) (by decide)
          clear hK' K'
          refine run_fc (fun k => (4, 0)) (p118 c9 (by omega)) (hasF ⟨sf_winp (rcs_plain l2) rfl get_zero, trivial⟩ rfl) rfl rfl rfl rfl ⟨_, _, l2.length, Nat.le_refl _, rfl, rfl⟩ ?_
          rintro _ _ ⟨c10, hc10, rfl, rfl⟩
          rw [renU_c (renB_p (spare_plain l2 _)) renU_nil]
          refine run_end (z := false) fun K' hK' => hK' _ _ _ (hK _ _ _ ?_)
          clear hK' K' hK K
          refine vc_seq ?_
          refine vc_seq ?_
          refine vc_reg (by kernel_rfl) fun K hK => ?_
          refine run_n (z := false) 1 (fun K' hK' => hK' _ _ _ ?_) (by decide)
          clear hK' K'
          refine run_fc (fun k => if k = 0 then (15, 0) else if k = 1 then (13, 0) else (8, 0)) (h89b c10 hc10) (hasF ⟨sf_own rfl rfl, sf_ownp (spare_plain l2 _) rfl rfl, sf_own rfl rfl, trivial⟩ rfl) rfl rfl rfl rfl ⟨_, _, rfl, rfl⟩ ?_
          rintro _ _ ⟨rfl, rfl⟩
          rw [renU_c rfl (renU_c (renB_p (plainL_append (rcs_plain _) (zrow_plain rfl _))) (renU_c rfl renU_nil))]
          refine run_end (z := false) fun K' hK' => hK' _ _ _ (hK _ _ _ ?_)
          clear hK' K' hK K
          refine vc_seq ?_
          refine vc_go (by kernel_rfl) fun K hK => hK _ _ _ ?_
          clear hK K
          refine vc_cond (t := false) rfl (fun h => by cases h) (fun _ => ?_)
          refine vc_skip ?_
          refine vc_seq ?_
          refine vc_go (by kernel_rfl) fun K hK => hK _ _ _ ?_
          clear hK K
          refine vc_ret ⟨.inr rfl, ?_⟩
          refine ⟨.tuple #[.agg #[.slice (some ⟨13, 0, none⟩) l2.length c10], .int .i64 0], rfl, vl_cut ?_⟩
          refine vl_rest ?_
          refine run_end (z := false) fun K' hK' => hK' _ _ _ (hK _ _ _ ?_)
          clear hK' K' hK K
          refine vc_seq ?_
          refine vc_seq ?_
          refine vc_go (by kernel_rfl) fun K hK => hK _ _ _ ?_
          clear hK K
          refine vc_cond (t := false) rfl (fun h => by cases h) (fun _ => ?_)
          refine vc_skip ?_
          refine vc_seq ?_
          refine vc_goD [(1, 3)] (by kernel_rfl) (by kernel_rfl) fun K hK => hK _ _ _ _ ?_
          clear hK K
          refine vc_ret ⟨.inr rfl, ?_⟩
          refine ⟨.tuple #[.agg #[.slice (some ⟨13, 0, none⟩) l2.length c10], .slice none 0 0, .int .i64 0], rfl, vl_cut ?_⟩
          refine vl_rest ?_
          refine run_end (z := false) fun K' hK' => hK' _ _ _ (hK _ _ _ ?_)
          clear hK' K' hK K
          refine vc_seq ?_
          refine vc_reg (by kernel_rfl) fun K hK => ?_
          refine run_n (z := false) 10 (fun K' hK' => hK' _ _ _ ?_) (by decide)
          clear hK' K'
          refine run_ro (fun k => if k = 0 then (13, 0) else (4, 0)) (same_ro l2 c10 c9 (by omega)) ?_ rfl rfl rfl rfl ?_
          · intro x hx
            simp only [List.mem_cons, List.mem_singleton, List.not_mem_nil, or_false] at hx
            rcases hx with rfl | rfl
            · exact ⟨_, _, _, rfl, get_zero_app⟩
            · exact ⟨_, _, _, rfl, fun i v hv => (congrArg (fun k => (rws rc l2)[k]?) (Nat.zero_add i)).trans hv⟩
          refine run_end (z := false) fun K' hK' => hK' _ _ _ (hK _ _ _ ?_)
          clear hK' K' hK K
          refine vc_ret ⟨.inr rfl, ?_⟩
          exact fin_bb (by rw [hlen]; simp)
  · rw [topQ_yes hq] at hx htb
    rw [chk1_yes hq] at h47
    rw [← hx] at hb hn
    have h89 := fun c9 hc9 => p89s (l := l) (c := c9) (sp := zrow (c9 - l.length) z5) (by omega) hc9 (zrow_plain rfl _) hq hx hb hn
    have htb2 := tb2 hq hx htb
    obtain ⟨hq2, htop2, hI2, hQ2, hb2⟩ := again hq hx hb
    obtain ⟨l2, hl2⟩ : ∃ l2, l2 = clQ x l := ⟨_, rfl⟩
    have hlen : l2.length = l.length := by rw [hl2, clQ_len]
    have hSl := clI_len (x := x) (l := l)
    simp only [← hl2] at h89
    rw [← hl2] at hq2 htop2 hI2 hQ2 hb2
    have h47b := fun c => p47 l2 c (by omega)
    simp only [chk1_yes hq2] at h47b
    have h40b := fun c => p40 l2 c (by omega)
    simp only [topQ_yes hq2, htop2, ← hx, ← htb] at h40b
    have hx2 : x = accV (topS none l2) := by rw [htop2]; exact hx
    have h89b := fun c9 hc9 => p89n (l := l2) (c := c9) (sp := zrow (c9 - l2.length) z5) (by omega) hc9 (zrow_plain rfl _) hq2 hx2 hb2 hI2
    simp only [hQ2] at h89b
    refine vc_regL (by kernel_rfl) fun K hK => ?_
    refine vl_pre 1 ?_
    refine run_end (z := false) fun K' hK' => hK' _ _ _ ?_
    clear hK' K'
    refine vl_inl (vs := [qv 1 l.length c2]) Try.func41 rfl Try.ntmps41 (by kernel_rfl) rfl rfl rfl (Nat.le_of_ble_eq_true rfl) rfl ?_
    refine vc_seq ?_
    refine vc_go (by kernel_rfl) fun K hK => hK _ _ _ ?_
    clear hK K
    refine vc_seq ?_
    refine vc_go (by kernel_rfl) fun K hK => hK _ _ _ ?_
    clear hK K
    refine vc_seq ?_
    refine vc_regL (by kernel_rfl) fun K hK => ?_
    refine vl_pre 2 ?_
    refine run_end (z := false) fun K' hK' => hK' _ _ _ ?_
    clear hK' K'
    refine vl_inl (vs := [qv 1 l.length c2, .func (.func 89) #[] #[.pointer (some ⟨5, 0, none⟩)]]) Try.func88 rfl Try.ntmps88 (by kernel_rfl) rfl rfl rfl (Nat.le_of_ble_eq_true rfl) rfl ?_
    refine vc_seq ?_
    refine vc_go (by kernel_rfl) fun K hK => hK _ _ _ ?_
    clear hK K
    refine vc_seq ?_
    refine vc_seq ?_
    refine vc_reg (by kernel_rfl) fun K hK => ?_
    refine run_n (z := false) 1 (fun K' hK' => hK' _ _ _ ?_) (by decide)
    clear hK' K'
    refine run_ro (fun _ => (1, 0)) (h47) ?_ rfl rfl rfl rfl ?_
    · intro x hx
      simp only [List.mem_singleton] at hx
      subst hx
      exact ⟨_, _, _, rfl, fun i v hv => by rw [Nat.zero_add]; exact hv⟩
    refine run_end (z := false) fun K' hK' => hK' _ _ _ (hK _ _ _ ?_)
    clear hK' K' hK K
    refine vc_seq ?_
    refine vc_go (by kernel_rfl) fun K hK => hK _ _ _ ?_
    clear hK K
    refine vc_cond (t := false) rfl (fun h => by cases h) (fun _ => ?_)
    refine vc_skip ?_
    refine vc_seq ?_
    refine vc_reg (by kernel_rfl) fun K hK => ?_
    refine run_n (z := false) 2 (fun K' hK' => hK' _ _ _ ?_) (by decide)
    clear hK' K'
    refine run_fc (fun k => (1, 0)) (p118 c2 (by omega)) (hasF ⟨sf_winp (rcs_plain l) rfl get_zero, trivial⟩ rfl) rfl rfl rfl rfl ⟨_, _, l.length, Nat.le_refl _, rfl, rfl⟩ ?_
    rintro _ _ ⟨c9, hc9, rfl, rfl⟩
    rw [renU_c (renB_p (spare_plain l _)) renU_nil]
    refine run_end (z := false) fun K' hK' => hK' _ _ _ (hK _ _ _ ?_)
    clear hK' K' hK K
    refine vc_seq ?_
    refine vc_seq ?_
    refine vc_reg (by kernel_rfl) fun K hK => ?_
    refine run_n (z := false) 1 (fun K' hK' => hK' _ _ _ ?_) (by decide)
    clear hK' K'
    refine run_fc (fun k => if k = 0 then (12, 0) else if k = 1 then (10, 0) else (5, 0)) (h89 c9 hc9) (hasF ⟨sf_own rfl rfl, sf_ownp (spare_plain l _) rfl rfl, sf_own rfl rfl, trivial⟩ rfl) rfl rfl rfl rfl ⟨_, _, rfl, 0, [], rfl, rfl⟩ ?_
    rintro _ _ ⟨rfl, c3, sp3, hp3, rfl⟩
    rw [renU_c rfl (renU_c (renB_p (plainL_append (rcs_plain _) (zrow_plain rfl _))) (renU_c rfl (renU_c (renB_p (plainL_append (ics_plain _) hp3)) renU_nil)))]
    refine run_end (z := false) fun K' hK' => hK' _ _ _ (hK _ _ _ ?_)
    clear hK' K' hK K
    refine vc_seq ?_
    refine vc_go (by kernel_rfl) fun K hK => hK _ _ _ ?_
    clear hK K
    refine vc_cond (t := false) rfl (fun h => by cases h) (fun _ => ?_)
    refine vc_skip ?_
    refine vc_seq ?_
    refine vc_go (by kernel_rfl) fun K hK => hK _ _ _ ?_
    clear hK K
    refine vc_ret ⟨.inr rfl, ?_⟩
    refine ⟨.tuple #[.agg #[.slice (some ⟨10, 0, none⟩) l2.length c9], .int .i64 0], rfl, vl_cut ?_⟩
    refine vl_rest ?_
    refine run_end (z := false) fun K' hK' => hK' _ _ _ (hK _ _ _ ?_)
    clear hK' K' hK K
    refine vc_seq ?_
    refine vc_seq ?_
    refine vc_go (by kernel_rfl) fun K hK => hK _ _ _ ?_
    clear hK K
    refine vc_cond (t := false) rfl (fun h => by cases h) (fun _ => ?_)
    refine vc_skip ?_
    refine vc_seq ?_
    refine vc_goD [(1, 3)] (by kernel_rfl) (by kernel_rfl) fun K hK => hK _ _ _ _ ?_
    clear hK K
    refine vc_ret ⟨.inr rfl, ?_⟩
    refine ⟨.tuple #[.agg #[.slice (some ⟨10, 0, none⟩) l2.length c9], .slice (some ⟨14, 0, none⟩) (clI x l).length c3, .int .i64 0], rfl, vl_cut ?_⟩
    refine vl_rest ?_
    refine run_end (z := false) fun K' hK' => hK' _ _ _ (hK _ _ _ ?_)
    clear hK' K' hK K
    refine renF (fun k => if k = 3 then 23 else if k = 4 then 10 else if k = 5 then 14 else k) [(3, .pointer (some ⟨0, 0, none⟩)), (4, .pointer (some ⟨2, 0, none⟩)), (5, .bool tb), (6, .pointer (some ⟨3, 0, none⟩)), (7, .slice (some ⟨5, 0, none⟩) (clI x l).length c3), (8, .int .i64 0)] [(0, .cells [.slice (some ⟨1, 0, none⟩) l.length c2] 55 true), (1, .cells (rws rc l) 67 false), (2, .cells (frc x.1 x.2) 58 true), (3, .cells [.slice (some ⟨4, 0, none⟩) l2.length c9] 55 true), (4, .cells (rws rc l2) 67 false), (5, .cells (rws ic (clI x l)) 3 false)] 6 (by decide) (fun m hm => absurd hm (Nat.not_lt_zero m)) ⟨rfl, rfl, rfl, rfl, rfl, rfl, trivial⟩ ⟨sf_own rfl rfl, sf_winp (rcs_plain l) rfl get_zero, sf_ownp (by rfl) rfl rfl, sf_own rfl rfl, sf_winp (rcs_plain l2) rfl get_zero_app, sf_winp (ics_plain _) rfl get_zero_app, trivial⟩ rfl (bdH_b (by decide) rfl (bdH_c (by decide) (rcs_plain l) (bdH_c (by decide) (by rfl) (bdH_b (by decide) rfl (bdH_c (by decide) (rcs_plain l2) (bdH_c (by decide) (ics_plain _) rfl)))))) rfl ?_
    refine vc_seq ?_
    refine vc_seq ?_
    refine vc_go (by kernel_rfl) fun K hK => hK _ _ _ ?_
    clear hK K
    refine vc_cond (t := false) rfl (fun h => by cases h) (fun _ => ?_)
    refine vc_skip ?_
    refine vc_seq ?_
    refine vc_reg (by kernel_rfl) fun K hK => ?_
    refine run_n (z := false) 1 (fun K' hK' => hK' _ _ _ ?_) (by decide)
    clear hK' K'
    refine run_ro (fun _ => (4, 0)) ((h40b c9)) ?_ rfl rfl rfl rfl ?_
    · intro x hx
      simp only [List.mem_singleton] at hx
      subst hx
      exact ⟨_, _, _, rfl, fun i v hv => by rw [Nat.zero_add]; exact hv⟩
    refine run_end (z := false) fun K' hK' => hK' _ _ _ (hK _ _ _ ?_)
    clear hK' K' hK K
    refine vc_seq ?_
    refine vc_mid (fun s => s = can [(3, .pointer (some ⟨0, 0, none⟩)), (4, .pointer (some ⟨2, 0, none⟩)), (6, .pointer (some ⟨3, 0, none⟩)), (7, .slice (some ⟨5, 0, none⟩) (clI x l).length c3)] [(0, .cells [.slice (some ⟨1, 0, none⟩) l.length c2] 55 true), (1, .cells (rws rc l) 67 false), (2, .cells (frc x.1 x.2) 58 true), (3, .cells [.slice (some ⟨4, 0, none⟩) l2.length c9] 55 true), (4, .cells (rws rc l2) 67 false), (5, .cells (rws ic (clI x l)) 3 false)] 6) ?_ ?_
    · skip
      refine vc_seq ?_
      rcases htb2 with rfl | ⟨rfl, hxx⟩
      · skip
        refine vc_reg (by kernel_rfl) fun K hK => ?_
        refine run_n (z := false) 6 (fun K' hK' => hK' _ _ _ ?_) (by decide)
        clear hK' K'
        refine vgo_known 54 (b := false) (rfl) ?_
        refine run_end (z := false) fun K' hK' => hK' _ _ _ (hK _ _ _ ?_)
        clear hK' K' hK K
        refine vc_cond (t := false) rfl (fun h => by cases h) (fun _ => ?_)
        refine vc_skip ?_
        exact ⟨rfl, _, fg_focus [(3, .pointer (some ⟨0, 0, none⟩)), (4, .pointer (some ⟨2, 0, none⟩)), (6, .pointer (some ⟨3, 0, none⟩)), (7, .slice (some ⟨5, 0, none⟩) (clI x l).length c3)] [(0, .cells [.slice (some ⟨1, 0, none⟩) l.length c2] 55 true), (1, .cells (rws rc l) 67 false), (2, .cells (frc x.1 x.2) 58 true), (3, .cells [.slice (some ⟨4, 0, none⟩) l2.length c9] 55 true), (4, .cells (rws rc l2) 67 false), (5, .cells (rws ic (clI x l)) 3 false)] 6 (by decide) ⟨rfl, rfl, rfl, rfl, trivial⟩ ⟨sb rfl, sb rfl, sb rfl, sb rfl, sb rfl, sb rfl, trivial⟩ rfl (bdH_b (by decide) rfl (bdH_c (by decide) (rcs_plain l) (bdH_c (by decide) (by rfl) (bdH_b (by decide) rfl (bdH_c (by decide) (rcs_plain l2) (bdH_c (by decide) (ics_plain _) rfl)))))), rfl⟩
      · have h42x := p42y hxx hxx
        rw [cmp_zero] at h42x
        refine vc_reg (by kernel_rfl) fun K hK => ?_
        refine run_n (z := false) 8 (fun K' hK' => hK' _ _ _ ?_) (by decide)
        clear hK' K'
        refine run_call (h42x) rfl rfl rfl rfl ?_
        refine run_end (z := false) fun K' hK' => hK' _ _ _ (hK _ _ _ ?_)
        clear hK' K' hK K
        refine vc_cond (t := false) rfl (fun h => by cases h) (fun _ => ?_)
        refine vc_skip ?_
        exact ⟨rfl, _, fg_focus [(3, .pointer (some ⟨0, 0, none⟩)), (4, .pointer (some ⟨2, 0, none⟩)), (6, .pointer (some ⟨3, 0, none⟩)), (7, .slice (some ⟨5, 0, none⟩) (clI x l).length c3)] [(0, .cells [.slice (some ⟨1, 0, none⟩) l.length c2] 55 true), (1, .cells (rws rc l) 67 false), (2, .cells (frc x.1 x.2) 58 true), (3, .cells [.slice (some ⟨4, 0, none⟩) l2.length c9] 55 true), (4, .cells (rws rc l2) 67 false), (5, .cells (rws ic (clI x l)) 3 false)] 6 (by decide) ⟨rfl, rfl, rfl, rfl, trivial⟩ ⟨sb rfl, sb rfl, sb rfl, sb rfl, sb rfl, sb rfl, trivial⟩ rfl (bdH_b (by decide) rfl (bdH_c (by decide) (rcs_plain l) (bdH_c (by decide) (by rfl) (bdH_b (by decide) rfl (bdH_c (by decide) (rcs_plain l2) (bdH_c (by decide) (ics_plain _) rfl)))))), rfl⟩
    · skip
      rintro s2 rfl
      refine vc_seq ?_
      refine vc_reg (by kernel_rfl) fun K hK => ?_
      refine run_sp (sp_mkMap rfl) rfl rfl rfl ⟨_, _, rfl, rfl⟩ ?_
      rintro _ _ ⟨rfl, rfl⟩
      refine run_end (z := false) fun K' hK' => hK' _ _ _ (hK _ _ _ ?_)
      clear hK' K' hK K
      refine vc_seq ?_
      refine vc_seq ?_
      refine vc_go (by kernel_rfl) fun K hK => hK _ _ _ ?_
      clear hK K
      refine vc_block ?_
      refine vc_loopF (fun n s => ∃ j : Nat, n = (clI x l).length - j ∧ j ≤ (clI x l).length ∧ s = can [(3, .pointer (some ⟨0, 0, none⟩)), (4, .pointer (some ⟨2, 0, none⟩)), (6, .pointer (some ⟨3, 0, none⟩)), (11, .map (some 6)), (62, .slice (some ⟨5, 0, none⟩) (clI x l).length c3), (63, .int .i64 ((clI x l).length : Int)), (64, .int .i64 ((j : Nat) : Int))] [(0, .cells [.slice (some ⟨1, 0, none⟩) l.length c2] 55 true), (1, .cells (rws rc l) 67 false), (2, .cells (frc x.1 x.2) 58 true), (3, .cells [.slice (some ⟨4, 0, none⟩) l2.length c9] 55 true), (4, .cells (rws rc l2) 67 false), (5, .cells (rws ic (clI x l)) 3 false), (6, .obj (mS ((clI x l).take (j))))] 7) (clI x l).length ?_ ?_
      · exact ⟨_, fg_focus [(3, .pointer (some ⟨0, 0, none⟩)), (4, .pointer (some ⟨2, 0, none⟩)), (6, .pointer (some ⟨3, 0, none⟩)), (11, .map (some 6)), (62, .slice (some ⟨5, 0, none⟩) (clI x l).length c3), (63, .int .i64 ((clI x l).length : Int)), (64, .int .i64 ((0 : Nat) : Int))] [(0, .cells [.slice (some ⟨1, 0, none⟩) l.length c2] 55 true), (1, .cells (rws rc l) 67 false), (2, .cells (frc x.1 x.2) 58 true), (3, .cells [.slice (some ⟨4, 0, none⟩) l2.length c9] 55 true), (4, .cells (rws rc l2) 67 false), (5, .cells (rws ic (clI x l)) 3 false), (6, .obj (mS ((clI x l).take (0))))] 7 (by decide) ⟨rfl, rfl, rfl, rfl, rfl, rfl, rfl, trivial⟩ ⟨sb rfl, sb rfl, sb rfl, sb rfl, sb rfl, sb rfl, sb rfl, trivial⟩ rfl (bdH_b (by decide) rfl (bdH_c (by decide) (rcs_plain l) (bdH_c (by decide) (by rfl) (bdH_b (by decide) rfl (bdH_c (by decide) (rcs_plain l2) (bdH_c (by decide) (ics_plain _) (bdH_b (by decide) rfl rfl))))))), 0, rfl, Nat.zero_le _, rfl⟩
      · rintro n s ⟨j, hn1, hj, rfl⟩
        refine vc_seq ?_
        refine vc_go (by kernel_rfl) fun K hK => hK _ _ _ ?_
        clear hK K
        refine vc_seq ?_
        refine vc_cond rfl (fun c0 => ?_) (fun c0 => ?_)
        · -- cond 14 t65 true
          refine vc_skip ?_
          refine vc_seq ?_
          refine vc_block ?_
          refine vc_seq ?_
          have hlt2 := len_le c0
          obtain ⟨id, hid⟩ : ∃ id, (clI x l)[j]? = some id := ⟨(clI x l)[j], List.getElem?_eq_getElem hlt2⟩
          refine vc_reg (by kernel_rfl) fun K hK => ?_
          refine run_op (vex_ixs (j := j) rfl rfl rfl hlt2 rfl rfl) rfl ?_
          refine run_rd (vex_ldc ic_len (j := 0) (i := j) rfl (Nat.zero_add _) rfl (rws_win ic _) rfl hid (by decide) rfl) rfl ?_
          refine run_end (z := false) fun K' hK' => hK' _ _ _ (hK _ _ _ ?_)
          clear hK' K' hK K
          refine vc_reg (by kernel_rfl) fun K hK => ?_
          refine run_n (z := false) 2 (fun K' hK' => hK' _ _ _ ?_) (by decide)
          clear hK' K'
          refine run_sp (sp_mapSet rfl rfl rfl rfl rfl (not_taken (clI_nodup hq) hid)) rfl rfl rfl ⟨_, _, rfl, rfl⟩ ?_
          rintro _ _ ⟨rfl, rfl⟩
          refine run_end (z := false) fun K' hK' => hK' _ _ _ (hK _ _ _ ?_)
          clear hK' K' hK K
          refine vc_go (by kernel_rfl) fun K hK => hK _ _ _ ?_
          clear hK K
          exact ⟨_, fg_focus [(3, .pointer (some ⟨0, 0, none⟩)), (4, .pointer (some ⟨2, 0, none⟩)), (6, .pointer (some ⟨3, 0, none⟩)), (11, .map (some 6)), (62, .slice (some ⟨5, 0, none⟩) (clI x l).length c3), (63, .int .i64 ((clI x l).length : Int)), (64, .int .i64 ((j + 1 : Nat) : Int))] [(0, .cells [.slice (some ⟨1, 0, none⟩) l.length c2] 55 true), (1, .cells (rws rc l) 67 false), (2, .cells (frc x.1 x.2) 58 true), (3, .cells [.slice (some ⟨4, 0, none⟩) l2.length c9] 55 true), (4, .cells (rws rc l2) 67 false), (5, .cells (rws ic (clI x l)) 3 false), (6, .obj (mS ((clI x l).take (j + 1))))] 7 (by decide) ⟨rfl, rfl, rfl, rfl, rfl, rfl, ii (wrapI (by omega) (by omega)), trivial⟩ ⟨sb rfl, sb rfl, sb rfl, sb rfl, sb rfl, sb rfl, sbo rfl (take_next hid), trivial⟩ rfl (bdH_b (by decide) rfl (bdH_c (by decide) (rcs_plain l) (bdH_c (by decide) (by rfl) (bdH_b (by decide) rfl (bdH_c (by decide) (rcs_plain l2) (bdH_c (by decide) (ics_plain _) (bdH_b (by decide) rfl rfl))))))), (clI x l).length - (j + 1), by omega, j + 1, rfl, hlt2, rfl⟩
        · -- cond 14 t65 false
          refine vc_exit ?_
          refine vc_seq ?_
          refine vc_seq ?_
          have hje : j = (clI x l).length := by have := len_ge c0; omega
          subst hje
          rw [List.take_length]
          refine vc_go (by kernel_rfl) fun K hK => hK _ _ _ ?_
          clear hK K
          refine vc_block ?_
          refine vc_loopF (fun n s => ∃ i : Nat, n = l2.length - i ∧ i ≤ l2.length ∧ s = can [(3, .pointer (some ⟨0, 0, none⟩)), (4, .pointer (some ⟨2, 0, none⟩)), (6, .pointer (some ⟨3, 0, none⟩)), (11, .map (some 6)), (72, .slice (some ⟨4, 0, none⟩) l2.length c9), (73, .int .i64 (l2.length : Int)), (74, .int .i64 ((i : Nat) : Int))] [(0, .cells [.slice (some ⟨1, 0, none⟩) l.length c2] 55 true), (1, .cells (rws rc l) 67 false), (2, .cells (frc x.1 x.2) 58 true), (3, .cells [.slice (some ⟨4, 0, none⟩) l2.length c9] 55 true), (4, .cells (rws rc l2) 67 false), (6, .obj (mS (clI x l)))] 7) l2.length ?_ ?_
          · exact ⟨_, fg_focus [(3, .pointer (some ⟨0, 0, none⟩)), (4, .pointer (some ⟨2, 0, none⟩)), (6, .pointer (some ⟨3, 0, none⟩)), (11, .map (some 6)), (72, .slice (some ⟨4, 0, none⟩) l2.length c9), (73, .int .i64 (l2.length : Int)), (74, .int .i64 ((0 : Nat) : Int))] [(0, .cells [.slice (some ⟨1, 0, none⟩) l.length c2] 55 true), (1, .cells (rws rc l) 67 false), (2, .cells (frc x.1 x.2) 58 true), (3, .cells [.slice (some ⟨4, 0, none⟩) l2.length c9] 55 true), (4, .cells (rws rc l2) 67 false), (6, .obj (mS (clI x l)))] 7 (by decide) ⟨rfl, rfl, rfl, rfl, rfl, rfl, rfl, trivial⟩ ⟨sb rfl, sb rfl, sb rfl, sb rfl, sb rfl, sb rfl, trivial⟩ rfl (bdH_b (by decide) rfl (bdH_c (by decide) (rcs_plain l) (bdH_c (by decide) (by rfl) (bdH_b (by decide) rfl (bdH_c (by decide) (rcs_plain l2) (bdH_b (by decide) rfl rfl)))))), 0, rfl, Nat.zero_le _, rfl⟩
          · rintro n s ⟨i, hn3, hi, rfl⟩
            refine vc_seq ?_
            refine vc_go (by kernel_rfl) fun K hK => hK _ _ _ ?_
            clear hK K
            refine vc_seq ?_
            refine vc_cond rfl (fun c1 => ?_) (fun c1 => ?_)
            · -- cond 15 t75 true
              refine vc_skip ?_
              refine vc_seq ?_
              refine vc_block ?_
              refine vc_seq ?_
              have hlt := len_le c1
              have hlt1 : i < l.length := by rw [← hlen]; exact hlt
              obtain ⟨r, hr⟩ : ∃ r, l[i]? = some r := ⟨l[i], List.getElem?_eq_getElem hlt1⟩
              have hrl := List.mem_of_getElem? hr
              obtain ⟨_, hxr⟩ := top_in hq hrl
              rw [← hx] at hxr
              have hrr := okR_rt (okq_mem hq r hrl)
              have h43 := p43 l c2 r.id (by omega)
              rw [(at_of hq hr).2.2] at h43
              simp only [Option.getD_some, Option.isSome_some] at h43
              have hmem := clI_mem (x := x) hq hr
              have hM : l2[i]? = some (clR x r) := by rw [hl2]; exact clQ_get hr
              have h44r := p44y (s := SLK) hrr hxr (by decide)
              cases hg : clG x r
              · rw [clR_no hg] at hM
                rw [hg] at hmem
                rw [show bh r.n r.w x.1 x.2 SLK = false from hg] at h44r
                refine vc_reg (by kernel_rfl) fun K hK => ?_
                refine run_op (vex_ixs (j := i) rfl rfl rfl hlt rfl rfl) rfl ?_
                refine run_rd (vex_ldr rc_len (j := 0) (i := i) (d := rc r) rfl (Nat.zero_add _) rfl (rws_win rc l2) rfl hM (by decide) rfl) rfl ?_
                refine run_end (z := false) fun K' hK' => hK' _ _ _ (hK _ _ _ ?_)
                clear hK' K' hK K
                refine vc_seq ?_
                refine vc_reg (by kernel_rfl) fun K hK => ?_
                refine run_n (z := false) 3 (fun K' hK' => hK' _ _ _ ?_) (by decide)
                clear hK' K'
                refine run_ro (fun _ => (1, 0)) (h43) ?_ rfl rfl rfl rfl ?_
                · intro x hx
                  simp only [List.mem_singleton] at hx
                  subst hx
                  exact ⟨_, _, _, rfl, fun i v hv => by rw [Nat.zero_add]; exact hv⟩
                refine run_end (z := false) fun K' hK' => hK' _ _ _ (hK _ _ _ ?_)
                clear hK' K' hK K
                refine vc_seq ?_
                refine vc_regD [(12, 14), (12, 15), (11, 16), (12, 16)] (by kernel_rfl) (by kernel_rfl) fun K hK => ?_
                refine runD_n (z := false) 6 (fun K' hK' => hK' _ _ _ _ ?_) (by decide)
                clear hK' K'
                refine runD_call (h44r) rfl rfl rfl rfl ?_
                refine runD_n (z := false) 5 (fun K' hK' => hK' _ _ _ _ ?_) (by decide)
                clear hK' K'
                refine runD_rd (vex_look rfl rfl rfl hmem) rfl rfl ?_
                refine runD_n (z := false) 3 (fun K' hK' => hK' _ _ _ _ ?_) (by decide)
                clear hK' K'
                refine runD_call (h44r) rfl rfl rfl rfl ?_
                refine runD_n (z := false) 6 (fun K' hK' => hK' _ _ _ _ ?_) (by decide)
                clear hK' K'
                refine runD_rd (vex_look rfl rfl rfl hmem) rfl rfl ?_
                refine runD_n (z := false) 8 (fun K' hK' => hK' _ _ _ _ ?_) (by decide)
                clear hK' K'
                refine W_known 116 (b := false) (bb (by rw [rn_beq]; simp)) ?_
                refine runD_n (z := false) 3 (fun K' hK' => hK' _ _ _ _ ?_) (by decide)
                clear hK' K'
                refine runD_rd (vex_look rfl rfl rfl hmem) rfl rfl ?_
                refine runD_n (z := false) 1 (fun K' hK' => hK' _ _ _ _ ?_) (by decide)
                clear hK' K'
                refine W_known 121 (b := false) (rfl) ?_
                refine runD_end (z := false) fun K' hK' => hK' _ _ _ _ (hK _ _ _ ?_)
                clear hK' K' hK K
                refine vc_cond (t := false) rfl (fun h => by cases h) (fun _ => ?_)
                refine vc_skip ?_
                refine vc_go (by kernel_rfl) fun K hK => hK _ _ _ ?_
                clear hK K
                exact ⟨_, fg_focus [(3, .pointer (some ⟨0, 0, none⟩)), (4, .pointer (some ⟨2, 0, none⟩)), (6, .pointer (some ⟨3, 0, none⟩)), (11, .map (some 6)), (72, .slice (some ⟨4, 0, none⟩) l2.length c9), (73, .int .i64 (l2.length : Int)), (74, .int .i64 ((i + 1 : Nat) : Int))] [(0, .cells [.slice (some ⟨1, 0, none⟩) l.length c2] 55 true), (1, .cells (rws rc l) 67 false), (2, .cells (frc x.1 x.2) 58 true), (3, .cells [.slice (some ⟨4, 0, none⟩) l2.length c9] 55 true), (4, .cells (rws rc l2) 67 false), (6, .obj (mS (clI x l)))] 7 (by decide) ⟨rfl, rfl, rfl, rfl, rfl, rfl, ii (wrapI (by omega) (by omega)), trivial⟩ ⟨sb rfl, sb rfl, sb rfl, sb rfl, sb rfl, sb rfl, trivial⟩ rfl (bdH_b (by decide) rfl (bdH_c (by decide) (rcs_plain l) (bdH_c (by decide) (by rfl) (bdH_b (by decide) rfl (bdH_c (by decide) (rcs_plain l2) (bdH_b (by decide) rfl rfl)))))), l2.length - (i + 1), by omega, i + 1, rfl, hlt, rfl⟩
              · rw [clR_yes hg] at hM
                rw [hg] at hmem
                rw [show bh r.n r.w x.1 x.2 SLK = true from hg] at h44r
                have hF := clB_no hg (hb r hrl)
                have hFr : rt (farN x.1 x.2 r.w) r.w = true := rt_mk (rt_wt hrr) hF
                have h44 := p44y (s := SLK) hFr hxr (by decide)
                rw [far_not (rt_w hxr).1] at h44
                have h42 := p42y hFr hrr
                rw [cmp_one (far_up (rt_w hxr).1 hg) (rt_w hrr).1] at h42
                refine vc_reg (by kernel_rfl) fun K hK => ?_
                refine run_op (vex_ixs (j := i) rfl rfl rfl hlt rfl rfl) rfl ?_
                refine run_rd (vex_ldr rc_len (j := 0) (i := i) (d := rc ({ r with n := farN x.1 x.2 r.w } : Rn)) rfl (Nat.zero_add _) rfl (rws_win rc l2) rfl hM (by decide) rfl) rfl ?_
                refine run_end (z := false) fun K' hK' => hK' _ _ _ (hK _ _ _ ?_)
                clear hK' K' hK K
                refine vc_seq ?_
                refine vc_reg (by kernel_rfl) fun K hK => ?_
                refine run_n (z := false) 3 (fun K' hK' => hK' _ _ _ ?_) (by decide)
                clear hK' K'
                refine run_ro (fun _ => (1, 0)) (h43) ?_ rfl rfl rfl rfl ?_
                · intro x hx
                  simp only [List.mem_singleton] at hx
                  subst hx
                  exact ⟨_, _, _, rfl, fun i v hv => by rw [Nat.zero_add]; exact hv⟩
                refine run_end (z := false) fun K' hK' => hK' _ _ _ (hK _ _ _ ?_)
                clear hK' K' hK K
                refine vc_seq ?_
                refine vc_regD [(12, 14), (12, 15), (11, 16), (12, 16)] (by kernel_rfl) (by kernel_rfl) fun K hK => ?_
                refine runD_n (z := false) 6 (fun K' hK' => hK' _ _ _ _ ?_) (by decide)
                clear hK' K'
                refine runD_call (h44) rfl rfl rfl rfl ?_
                refine runD_n (z := false) 5 (fun K' hK' => hK' _ _ _ _ ?_) (by decide)
                clear hK' K'
                refine runD_rd (vex_look rfl rfl rfl hmem) rfl rfl ?_
                refine runD_n (z := false) 3 (fun K' hK' => hK' _ _ _ _ ?_) (by decide)
                clear hK' K'
                refine runD_call (h44r) rfl rfl rfl rfl ?_
                refine runD_n (z := false) 6 (fun K' hK' => hK' _ _ _ _ ?_) (by decide)
                clear hK' K'
                refine runD_rd (vex_look rfl rfl rfl hmem) rfl rfl ?_
                refine runD_n (z := false) 11 (fun K' hK' => hK' _ _ _ _ ?_) (by decide)
                clear hK' K'
                refine runD_rd (vex_look rfl rfl rfl hmem) rfl rfl ?_
                refine runD_n (z := false) 5 (fun K' hK' => hK' _ _ _ _ ?_) (by decide)
                clear hK' K'
                refine runD_call (h42) rfl rfl rfl rfl ?_
                refine runD_end (z := false) fun K' hK' => hK' _ _ _ _ (hK _ _ _ ?_)
                clear hK' K' hK K
                refine vc_cond (t := false) rfl (fun h => by cases h) (fun _ => ?_)
                refine vc_skip ?_
                refine vc_go (by kernel_rfl) fun K hK => hK _ _ _ ?_
                clear hK K
                exact ⟨_, fg_focus [(3, .pointer (some ⟨0, 0, none⟩)), (4, .pointer (some ⟨2, 0, none⟩)), (6, .pointer (some ⟨3, 0, none⟩)), (11, .map (some 6)), (72, .slice (some ⟨4, 0, none⟩) l2.length c9), (73, .int .i64 (l2.length : Int)), (74, .int .i64 ((i + 1 : Nat) : Int))] [(0, .cells [.slice (some ⟨1, 0, none⟩) l.length c2] 55 true), (1, .cells (rws rc l) 67 false), (2, .cells (frc x.1 x.2) 58 true), (3, .cells [.slice (some ⟨4, 0, none⟩) l2.length c9] 55 true), (4, .cells (rws rc l2) 67 false), (6, .obj (mS (clI x l)))] 7 (by decide) ⟨rfl, rfl, rfl, rfl, rfl, rfl, ii (wrapI (by omega) (by omega)), trivial⟩ ⟨sb rfl, sb rfl, sb rfl, sb rfl, sb rfl, sb rfl, trivial⟩ rfl (bdH_b (by decide) rfl (bdH_c (by decide) (rcs_plain l) (bdH_c (by decide) (by rfl) (bdH_b (by decide) rfl (bdH_c (by decide) (rcs_plain l2) (bdH_b (by decide) rfl rfl)))))), l2.length - (i + 1), by omega, i + 1, rfl, hlt, rfl⟩
            · -- cond 15 t75 false
              refine vc_exit ?_
              refine vc_seq ?_
              refine vc_regL (by kernel_rfl) fun K hK => ?_
              refine vl_pre 1 ?_
              refine run_end (z := false) fun K' hK' => hK' _ _ _ ?_
              clear hK' K'
              refine vl_inl (vs := [qv 4 l2.length c9]) Try.func41 rfl Try.ntmps41 (by kernel_rfl) rfl rfl rfl (Nat.le_of_ble_eq_true rfl) rfl ?_
              refine vc_seq ?_
              refine vc_go (by kernel_rfl) fun K hK => hK _ _ _ ?_
              clear hK K
              refine vc_seq ?_
              refine vc_go (by kernel_rfl) fun K hK => hK _ _ _ ?_
              clear hK K
              refine vc_seq ?_
              refine vc_regL (by kernel_rfl) fun K hK => ?_
              refine vl_pre 2 ?_
              refine run_end (z := false) fun K' hK' => hK' _ _ _ ?_
              clear hK' K'
              refine vl_inl (vs := [qv 4 l2.length c9, .func (.func 89) #[] #[.pointer (some ⟨9, 0, none⟩)]]) Try.func88 rfl Try.ntmps88 (by kernel_rfl) rfl rfl rfl (Nat.le_of_ble_eq_true rfl) rfl ?_
              refine vc_seq ?_
              refine vc_go (by kernel_rfl) fun K hK => hK _ _ _ ?_
              clear hK K
              refine vc_seq ?_
              refine vc_seq ?_
              refine vc_reg (by kernel_rfl) fun K hK => ?_
              refine run_n (z := false) 1 (fun K' hK' => hK' _ _ _ ?_) (by decide)
              clear hK' K'
              refine run_ro (fun _ => (4, 0)) ((h47b c9)) ?_ rfl rfl rfl rfl ?_
              · intro x hx
                simp only [List.mem_singleton] at hx
                subst hx
                exact ⟨_, _, _, rfl, fun i v hv => by rw [Nat.zero_add]; exact hv⟩
              refine run_end (z := false) fun K' hK' => hK' _ _ _ (hK _ _ _ ?_)
              clear hK' K' hK K
              refine vc_seq ?_
              refine vc_go (by kernel_rfl) fun K hK => hK _ _ _ ?_
              clear hK K
              refine vc_cond (t := false) rfl (fun h => by cases h) (fun _ => ?_)
              refine vc_skip ?_
              refine vc_seq ?_
              refine vc_reg (by kernel_rfl) fun K hK => ?_
              refine run_n (z := false) 2 (fun K' hK' => hK' _ _ _ ?_) (by decide)
              clear hK' K'
              refine run_fc (fun k => (4, 0)) (p118 c9 (by omega)) (hasF ⟨sf_winp (rcs_plain l2) rfl get_zero, trivial⟩ rfl) rfl rfl rfl rfl ⟨_, _, l2.length, Nat.le_refl _, rfl, rfl⟩ ?_
              rintro _ _ ⟨c10, hc10, rfl, rfl⟩
              rw [renU_c (renB_p (spare_plain l2 _)) renU_nil]
              refine run_end (z := false) fun K' hK' => hK' _ _ _ (hK _ _ _ ?_)
              clear hK' K' hK K
              refine vc_seq ?_
              refine vc_seq ?_
              refine vc_reg (by kernel_rfl) fun K hK => ?_
              refine run_n (z := false) 1 (fun K' hK' => hK' _ _ _ ?_) (by decide)
              clear hK' K'
              refine run_fc (fun k => if k = 0 then (16, 0) else if k = 1 then (14, 0) else (9, 0)) (h89b c10 hc10) (hasF ⟨sf_own rfl rfl, sf_ownp (spare_plain l2 _) rfl rfl, sf_own rfl rfl, trivial⟩ rfl) rfl rfl rfl rfl ⟨_, _, rfl, rfl⟩ ?_
              rintro _ _ ⟨rfl, rfl⟩
              rw [renU_c rfl (renU_c (renB_p (plainL_append (rcs_plain _) (zrow_plain rfl _))) (renU_c rfl renU_nil))]
              refine run_end (z := false) fun K' hK' => hK' _ _ _ (hK _ _ _ ?_)
              clear hK' K' hK K
              refine vc_seq ?_
              refine vc_go (by kernel_rfl) fun K hK => hK _ _ _ ?_
              clear hK K
              refine vc_cond (t := false) rfl (fun h => by cases h) (fun _ => ?_)
              refine vc_skip ?_
              refine vc_seq ?_
              refine vc_go (by kernel_rfl) fun K hK => hK _ _ _ ?_
              clear hK K
              refine vc_ret ⟨.inr rfl, ?_⟩
              refine ⟨.tuple #[.agg #[.slice (some ⟨14, 0, none⟩) l2.length c10], .int .i64 0], rfl, vl_cut ?_⟩
              refine vl_rest ?_
              refine run_end (z := false) fun K' hK' => hK' _ _ _ (hK _ _ _ ?_)
              clear hK' K' hK K
              refine vc_seq ?_
              refine vc_seq ?_
              refine vc_go (by kernel_rfl) fun K hK => hK _ _ _ ?_
              clear hK K
              refine vc_cond (t := false) rfl (fun h => by cases h) (fun _ => ?_)
              refine vc_skip ?_
              refine vc_seq ?_
              refine vc_goD [(1, 3)] (by kernel_rfl) (by kernel_rfl) fun K hK => hK _ _ _ _ ?_
              clear hK K
              refine vc_ret ⟨.inr rfl, ?_⟩
              refine ⟨.tuple #[.agg #[.slice (some ⟨14, 0, none⟩) l2.length c10], .slice none 0 0, .int .i64 0], rfl, vl_cut ?_⟩
              refine vl_rest ?_
              refine run_end (z := false) fun K' hK' => hK' _ _ _ (hK _ _ _ ?_)
              clear hK' K' hK K
              refine vc_seq ?_
              refine vc_reg (by kernel_rfl) fun K hK => ?_
              refine run_n (z := false) 10 (fun K' hK' => hK' _ _ _ ?_) (by decide)
              clear hK' K'
              refine run_ro (fun k => if k = 0 then (14, 0) else (4, 0)) (same_ro l2 c10 c9 (by omega)) ?_ rfl rfl rfl rfl ?_
              · intro x hx
                simp only [List.mem_cons, List.mem_singleton, List.not_mem_nil, or_false] at hx
                rcases hx with rfl | rfl
                · exact ⟨_, _, _, rfl, get_zero_app⟩
                · exact ⟨_, _, _, rfl, fun i v hv => (congrArg (fun k => (rws rc l2)[k]?) (Nat.zero_add i)).trans hv⟩
              refine run_end (z := false) fun K' hK' => hK' _ _ _ (hK _ _ _ ?_)
              clear hK' K' hK K
              refine vc_ret ⟨.inr rfl, ?_⟩
              exact fin_bb (by rw [hlen]; simp)
end Go.Proofs.Ytdfkcijholopoaa.Vm
