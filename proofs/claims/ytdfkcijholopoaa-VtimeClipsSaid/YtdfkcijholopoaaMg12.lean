/- What the proofs stand on, in one text: Tm, Tn, Na, Open. -/
import Derived.Test.YtdfkcijholopoaaMg11
import Derived.Test.YtdfkcijholopoaaRows
import Derived.Test.YtdfkcijholopoaaMg4
import Derived.ProofKit
import Derived.Lib.SmallJoins
namespace Go.Proofs.Ytdfkcijholopoaa.Vm
open Go Go.RowKit
set_option maxRecDepth 10000
set_option linter.unusedSimpArgs false
set_option linter.unusedVariables false

theorem altL_len {f : Rn → Int × Rn} : ∀ (is : List Nat) (l : List Rn) (e : Int), (altL f is l e).2.length = l.length
  | [], l, e => rfl
  | i :: is, l, e => by
    rw [altL]
    split
    · rfl
    · rw [altL_len is, List.length_set]
theorem alR_len (ok : Bool) (f : Rn → Int × Rn) (l : List Rn) (ids : List Int) : (alR ok f l ids).2.length = l.length := by
  unfold alR
  split
  · rfl
  · split
    · rfl
    · split
      · rfl
      · exact altL_len _ _ _

theorem p1261z {l : List Rn} {ids : List Int} {g c mc : Nat} {f : Rn → Int × Rn} {cv1 : Value} {ct1 : Nat} {ok : Bool} (hcv1 : plain cv1 = true) (hl : l.length ≤ 900) (hm : ids.length ≤ 900) {sp : List Value} (hc : l.length ≤ c) (hsp : plainL sp = true) (hnil : ids = [])  : FC 126 [.pointer (some ⟨0, 0, none⟩), .pointer (some ⟨2, 0, none⟩), .pointer (some ⟨3, 0, none⟩), .pointer (some ⟨4, 0, none⟩)] 7 [(0, .cells [.slice (some ⟨1, 0, none⟩) l.length c] 55 true), (1, .cells (rws rc l ++ sp) 67 true), (2, .cells [.bool ok] 4 false), (3, .cells [.slice none 0 0] 61 false), (4, .cells [.func (.func g) #[] #[.pointer (some ⟨6, 0, none⟩)]] 152 false), (5, .cells (rws ic ids) 3 false), (6, .cells [cv1] ct1 false)] (fun v u => v = .int .i64 (alR ok f l ids).1 ∧ u = [(0, .cells [.slice (some ⟨1, 0, none⟩) l.length c] 55 true), (1, .cells (rws rc (alR ok f l ids).2 ++ sp) 67 true)]) := by
  cases ok
  · exact p126f1z (mc := mc) (f := f) hcv1 hl hm hc hsp hnil
  · exact p126t1z (mc := mc) (f := f) hcv1 hl hm hc hsp hnil


theorem p88ae1z {l : List Rn} {ids : List Int} {g c mc : Nat} {f : Rn → Int × Rn} {cv1 : Value} {ct1 : Nat} {ok : Bool} (hcv1 : plain cv1 = true) (hl : l.length ≤ 900) (hm : ids.length ≤ 900) {e : Int} {l2 : List Rn} (he : e ≠ 0) (hq : okq 0 l = true) (h126 : ∀ c9, l.length ≤ c9 → FC 126 [.pointer (some ⟨0, 0, none⟩), .pointer (some ⟨2, 0, none⟩), .pointer (some ⟨3, 0, none⟩), .pointer (some ⟨4, 0, none⟩)] 7 [(0, .cells [.slice (some ⟨1, 0, none⟩) l.length c9] 55 true), (1, .cells (rws rc l ++ (zrow (c9 - l.length) z5)) 67 true), (2, .cells [.bool ok] 4 false), (3, .cells [.slice none 0 0] 61 false), (4, .cells [.func (.func g) #[] #[.pointer (some ⟨6, 0, none⟩)]] 152 false), (5, .cells (rws ic ids) 3 false), (6, .cells [cv1] ct1 false)] (fun v u => v = .int .i64 e ∧ u = [(0, .cells [.slice (some ⟨1, 0, none⟩) l.length c9] 55 true), (1, .cells (rws rc l2 ++ (zrow (c9 - l.length) z5)) 67 true)])) : FC 88 [qv 0 l.length c, .func (.func 126) #[] #[.pointer (some ⟨1, 0, none⟩), .pointer (some ⟨2, 0, none⟩), .pointer (some ⟨3, 0, none⟩)]] 6 [(0, .cells (rws rc l) 0 false), (1, .cells [.bool ok] 4 false), (2, .cells [.slice none 0 0] 61 false), (3, .cells [.func (.func g) #[] #[.pointer (some ⟨5, 0, none⟩)]] 152 false), (4, .cells (rws ic ids) 3 false), (5, .cells [cv1] ct1 false)] (fun v u => v = .tuple #[qnil, .int .i64 e] ∧ u = []) := by
  have h47 := p47 l c (by omega)
  rw [chk1_yes hq] at h47
  refine fc_of [(0, .cells (rws rc l) 0 false), (1, .cells [.bool ok] 4 false), (2, .cells [.slice none 0 0] 61 false), (3, .cells [.func (.func g) #[] #[.pointer (some ⟨5, 0, none⟩)]] 152 false), (4, .cells (rws ic ids) 3 false), (5, .cells [cv1] ct1 false)] 6 Try.func88 rfl Try.ntmps88 (by kernel_rfl) (by simp) rfl (bdH_c (by decide) (rcs_plain l) (bdH_b (by decide) rfl (bdH_b (by decide) rfl (bdH_b (by decide) rfl (bdH_c (by decide) (ics_plain ids) (bdH_b (by decide) (by simp [bdB, bdL, bdV_plain _ _ hcv1]) rfl)))))) (hall_of rfl) ?_
  refine vc_seq ?_
  refine vc_go (by kernel_rfl) fun K hK => hK _ _ _ ?_
  clear hK K
  refine vc_seq ?_
  refine vc_seq ?_
  refine vc_reg (by kernel_rfl) fun K hK => ?_
  refine run_n (z := false) 1 (fun K' hK' => hK' _ _ _ ?_) (by decide)
  clear hK' K'
  refine run_ro (fun _ => (0, 0)) (h47) ?_ rfl rfl rfl rfl ?_
  · intro x hx
    simp only [List.mem_singleton] at hx
    subst hx
    exact ⟨_, _, _, rfl, fun i v hv => by rw [Nat.zero_add]; exact hv⟩
  refine run_end (z := false) fun K' hK' => hK' _ _ _ (hK _ _ _ ?_)
  clear hK' K' hK K
  refine vc_seq ?_
  refine vc_go (by kernel_rfl) fun K hK => hK _ _ _ ?_
  clear hK K
  refine vc_cond (t := false) rfl (fun h => by cases h) (fun _ => ?_)
  refine vc_skip ?_
  refine vc_seq ?_
  refine vc_reg (by kernel_rfl) fun K hK => ?_
  refine run_n (z := false) 2 (fun K' hK' => hK' _ _ _ ?_) (by decide)
  clear hK' K'
  refine run_fc (fun k => (k, 0)) (p118 c (by omega)) (hasF ⟨sf_winp (rcs_plain l) rfl get_zero, trivial⟩ rfl) rfl rfl rfl rfl ⟨_, _, l.length, Nat.le_refl _, rfl, rfl⟩ ?_
  rintro _ _ ⟨c2, hc2, rfl, rfl⟩
  rw [renU_c (renB_p (spare_plain l _)) renU_nil]
  refine run_end (z := false) fun K' hK' => hK' _ _ _ (hK _ _ _ ?_)
  clear hK' K' hK K
  refine vc_seq ?_
  refine vc_seq ?_
  refine vc_reg (by kernel_rfl) fun K hK => ?_
  refine run_n (z := false) 1 (fun K' hK' => hK' _ _ _ ?_) (by decide)
  clear hK' K'
  refine run_fc (fun k => if k = 0 then (12, 0) else if k = 1 then (10, 0) else (k - 1, 0)) (h126 c2 hc2) (hasF ⟨sf_own rfl rfl, sf_ownp (spare_plain l _) rfl rfl, sf_winp rfl rfl get_zero, sf_win1 rfl rfl rfl, sf_win1 rfl rfl rfl, sf_winp (ics_plain ids) rfl get_zero, sf_win1 rfl rfl (renV_plain _ _ hcv1).symm, trivial⟩ rfl) rfl rfl rfl rfl ⟨_, _, rfl, rfl⟩ ?_
  rintro _ _ ⟨rfl, rfl⟩
  rw [renU_c rfl (renU_c (renB_p (plainL_append (rcs_plain l2) (zrow_plain rfl _))) renU_nil)]
  refine run_end (z := false) fun K' hK' => hK' _ _ _ (hK _ _ _ ?_)
  clear hK' K' hK K
  refine vc_seq ?_
  refine vc_go (by kernel_rfl) fun K hK => hK _ _ _ ?_
  clear hK K
  refine vc_cond (t := true) (bb (bne_iff_ne.2 he)) (fun _ => ?_) (fun h => by cases h)
  refine vc_seq ?_
  refine vc_go (by kernel_rfl) fun K hK => hK _ _ _ ?_
  clear hK K
  refine vc_ret ⟨.inr rfl, ?_⟩
  exact res_plain ⟨rfl, rfl⟩ rfl rfl rfl

theorem p88ak1z {l : List Rn} {ids : List Int} {g c mc : Nat} {f : Rn → Int × Rn} {cv1 : Value} {ct1 : Nat} {ok : Bool} (hcv1 : plain cv1 = true) (hl : l.length ≤ 900) (hm : ids.length ≤ 900) {e : Int} {l2 : List Rn} (he : e = 0) (hlen : l2.length = l.length) (hq : okq 0 l = true) (h126 : ∀ c9, l.length ≤ c9 → FC 126 [.pointer (some ⟨0, 0, none⟩), .pointer (some ⟨2, 0, none⟩), .pointer (some ⟨3, 0, none⟩), .pointer (some ⟨4, 0, none⟩)] 7 [(0, .cells [.slice (some ⟨1, 0, none⟩) l.length c9] 55 true), (1, .cells (rws rc l ++ (zrow (c9 - l.length) z5)) 67 true), (2, .cells [.bool ok] 4 false), (3, .cells [.slice none 0 0] 61 false), (4, .cells [.func (.func g) #[] #[.pointer (some ⟨6, 0, none⟩)]] 152 false), (5, .cells (rws ic ids) 3 false), (6, .cells [cv1] ct1 false)] (fun v u => v = .int .i64 e ∧ u = [(0, .cells [.slice (some ⟨1, 0, none⟩) l.length c9] 55 true), (1, .cells (rws rc l2 ++ (zrow (c9 - l.length) z5)) 67 true)])) : FC 88 [qv 0 l.length c, .func (.func 126) #[] #[.pointer (some ⟨1, 0, none⟩), .pointer (some ⟨2, 0, none⟩), .pointer (some ⟨3, 0, none⟩)]] 6 [(0, .cells (rws rc l) 0 false), (1, .cells [.bool ok] 4 false), (2, .cells [.slice none 0 0] 61 false), (3, .cells [.func (.func g) #[] #[.pointer (some ⟨5, 0, none⟩)]] 152 false), (4, .cells (rws ic ids) 3 false), (5, .cells [cv1] ct1 false)] (fun v u => ∃ c2 sp2, plainL sp2 = true ∧ v = .tuple #[qv 6 l.length c2, .int .i64 0] ∧ u = [(6, .cells (rws rc l2 ++ sp2) 67 true)]) := by
  have h47 := p47 l c (by omega)
  rw [chk1_yes hq] at h47
  subst he
  refine fc_of [(0, .cells (rws rc l) 0 false), (1, .cells [.bool ok] 4 false), (2, .cells [.slice none 0 0] 61 false), (3, .cells [.func (.func g) #[] #[.pointer (some ⟨5, 0, none⟩)]] 152 false), (4, .cells (rws ic ids) 3 false), (5, .cells [cv1] ct1 false)] 6 Try.func88 rfl Try.ntmps88 (by kernel_rfl) (by simp) rfl (bdH_c (by decide) (rcs_plain l) (bdH_b (by decide) rfl (bdH_b (by decide) rfl (bdH_b (by decide) rfl (bdH_c (by decide) (ics_plain ids) (bdH_b (by decide) (by simp [bdB, bdL, bdV_plain _ _ hcv1]) rfl)))))) (hall_of rfl) ?_
  refine vc_seq ?_
  refine vc_go (by kernel_rfl) fun K hK => hK _ _ _ ?_
  clear hK K
  refine vc_seq ?_
  refine vc_seq ?_
  refine vc_reg (by kernel_rfl) fun K hK => ?_
  refine run_n (z := false) 1 (fun K' hK' => hK' _ _ _ ?_) (by decide)
  clear hK' K'
  refine run_ro (fun _ => (0, 0)) (h47) ?_ rfl rfl rfl rfl ?_
  · intro x hx
    simp only [List.mem_singleton] at hx
    subst hx
    exact ⟨_, _, _, rfl, fun i v hv => by rw [Nat.zero_add]; exact hv⟩
  refine run_end (z := false) fun K' hK' => hK' _ _ _ (hK _ _ _ ?_)
  clear hK' K' hK K
  refine vc_seq ?_
  refine vc_go (by kernel_rfl) fun K hK => hK _ _ _ ?_
  clear hK K
  refine vc_cond (t := false) rfl (fun h => by cases h) (fun _ => ?_)
  refine vc_skip ?_
  refine vc_seq ?_
  refine vc_reg (by kernel_rfl) fun K hK => ?_
  refine run_n (z := false) 2 (fun K' hK' => hK' _ _ _ ?_) (by decide)
  clear hK' K'
  refine run_fc (fun k => (k, 0)) (p118 c (by omega)) (hasF ⟨sf_winp (rcs_plain l) rfl get_zero, trivial⟩ rfl) rfl rfl rfl rfl ⟨_, _, l.length, Nat.le_refl _, rfl, rfl⟩ ?_
  rintro _ _ ⟨c2, hc2, rfl, rfl⟩
  rw [renU_c (renB_p (spare_plain l _)) renU_nil]
  refine run_end (z := false) fun K' hK' => hK' _ _ _ (hK _ _ _ ?_)
  clear hK' K' hK K
  refine vc_seq ?_
  refine vc_seq ?_
  refine vc_reg (by kernel_rfl) fun K hK => ?_
  refine run_n (z := false) 1 (fun K' hK' => hK' _ _ _ ?_) (by decide)
  clear hK' K'
  refine run_fc (fun k => if k = 0 then (12, 0) else if k = 1 then (10, 0) else (k - 1, 0)) (h126 c2 hc2) (hasF ⟨sf_own rfl rfl, sf_ownp (spare_plain l _) rfl rfl, sf_winp rfl rfl get_zero, sf_win1 rfl rfl rfl, sf_win1 rfl rfl rfl, sf_winp (ics_plain ids) rfl get_zero, sf_win1 rfl rfl (renV_plain _ _ hcv1).symm, trivial⟩ rfl) rfl rfl rfl rfl ⟨_, _, rfl, rfl⟩ ?_
  rintro _ _ ⟨rfl, rfl⟩
  rw [renU_c rfl (renU_c (renB_p (plainL_append (rcs_plain l2) (zrow_plain rfl _))) renU_nil)]
  refine run_end (z := false) fun K' hK' => hK' _ _ _ (hK _ _ _ ?_)
  clear hK' K' hK K
  refine vc_seq ?_
  refine vc_go (by kernel_rfl) fun K hK => hK _ _ _ ?_
  clear hK K
  refine vc_cond (t := false) rfl (fun h => by cases h) (fun _ => ?_)
  refine vc_skip ?_
  refine vc_seq ?_
  refine vc_go (by kernel_rfl) fun K hK => hK _ _ _ ?_
  clear hK K
  refine vc_ret ⟨.inr rfl, ?_⟩
  exact res_of 10 _ _ ⟨c2, zrow (c2 - l.length) z5, zrow_plain rfl _, rfl, rfl⟩ (Nat.le_of_ble_eq_true rfl) rfl rfl ⟨sbu (plainL_append (rcs_plain _) (zrow_plain rfl _)) rfl, trivial⟩ (bdH_c (by decide) (plainL_append (rcs_plain _) (zrow_plain rfl _)) rfl) rfl (.inl (by simp))

theorem p88ac1z {l : List Rn} {ids : List Int} {g c mc : Nat} {f : Rn → Int × Rn} {cv1 : Value} {ct1 : Nat} {ok : Bool} (hcv1 : plain cv1 = true) (hl : l.length ≤ 900) (hm : ids.length ≤ 900) (hq : okq 0 l = false) : FC 88 [qv 0 l.length c, .func (.func 126) #[] #[.pointer (some ⟨1, 0, none⟩), .pointer (some ⟨2, 0, none⟩), .pointer (some ⟨3, 0, none⟩)]] 6 [(0, .cells (rws rc l) 0 false), (1, .cells [.bool ok] 4 false), (2, .cells [.slice none 0 0] 61 false), (3, .cells [.func (.func g) #[] #[.pointer (some ⟨5, 0, none⟩)]] 152 false), (4, .cells (rws ic ids) 3 false), (5, .cells [cv1] ct1 false)] (fun v u => v = .tuple #[qnil, .int .i64 200] ∧ u = []) := by
  have h47 := p47 l c (by omega)
  rw [chk1_no hq] at h47
  refine fc_of [(0, .cells (rws rc l) 0 false), (1, .cells [.bool ok] 4 false), (2, .cells [.slice none 0 0] 61 false), (3, .cells [.func (.func g) #[] #[.pointer (some ⟨5, 0, none⟩)]] 152 false), (4, .cells (rws ic ids) 3 false), (5, .cells [cv1] ct1 false)] 6 Try.func88 rfl Try.ntmps88 (by kernel_rfl) (by simp) rfl (bdH_c (by decide) (rcs_plain l) (bdH_b (by decide) rfl (bdH_b (by decide) rfl (bdH_b (by decide) rfl (bdH_c (by decide) (ics_plain ids) (bdH_b (by decide) (by simp [bdB, bdL, bdV_plain _ _ hcv1]) rfl)))))) (hall_of rfl) ?_
  refine vc_seq ?_
  refine vc_go (by kernel_rfl) fun K hK => hK _ _ _ ?_
  clear hK K
  refine vc_seq ?_
  refine vc_seq ?_
  refine vc_reg (by kernel_rfl) fun K hK => ?_
  refine run_n (z := false) 1 (fun K' hK' => hK' _ _ _ ?_) (by decide)
  clear hK' K'
  refine run_ro (fun _ => (0, 0)) (h47) ?_ rfl rfl rfl rfl ?_
  · intro x hx
    simp only [List.mem_singleton] at hx
    subst hx
    exact ⟨_, _, _, rfl, fun i v hv => by rw [Nat.zero_add]; exact hv⟩
  refine run_end (z := false) fun K' hK' => hK' _ _ _ (hK _ _ _ ?_)
  clear hK' K' hK K
  refine vc_seq ?_
  refine vc_go (by kernel_rfl) fun K hK => hK _ _ _ ?_
  clear hK K
  refine vc_cond (t := true) rfl (fun _ => ?_) (fun h => by cases h)
  refine vc_seq ?_
  refine vc_go (by kernel_rfl) fun K hK => hK _ _ _ ?_
  clear hK K
  refine vc_ret ⟨.inr rfl, ?_⟩
  exact res_plain ⟨rfl, rfl⟩ rfl rfl rfl

theorem p111e1z {l : List Rn} {ids : List Int} {g c mc : Nat} {f : Rn → Int × Rn} {cv1 : Value} {ct1 : Nat} {ok : Bool} (hcv1 : plain cv1 = true) {e : Int} (h88 : FC 88 [qv 0 l.length c, .func (.func 126) #[] #[.pointer (some ⟨1, 0, none⟩), .pointer (some ⟨2, 0, none⟩), .pointer (some ⟨3, 0, none⟩)]] 6 [(0, .cells (rws rc l) 0 false), (1, .cells [.bool ok] 4 false), (2, .cells [.slice none 0 0] 61 false), (3, .cells [.func (.func g) #[] #[.pointer (some ⟨5, 0, none⟩)]] 152 false), (4, .cells (rws ic ids) 3 false), (5, .cells [cv1] ct1 false)] (fun v u => v = .tuple #[qnil, .int .i64 e] ∧ u = [])) : FC 111 [qv 0 l.length c, .bool ok, .slice none 0 0, .func (.func g) #[] #[.pointer (some ⟨2, 0, none⟩)]] 3 [(0, .cells (rws rc l) 0 false), (1, .cells (rws ic ids) 3 false), (2, .cells [cv1] ct1 false)] (fun v u => v = .tuple #[qnil, .int .i64 e] ∧ u = []) := by
  refine fc_of [(0, .cells (rws rc l) 0 false), (1, .cells (rws ic ids) 3 false), (2, .cells [cv1] ct1 false)] 3 Try.func111 rfl Try.ntmps111 (by kernel_rfl) (by simp) rfl (bdH_c (by decide) (rcs_plain l) (bdH_c (by decide) (ics_plain ids) (bdH_b (by decide) (by simp [bdB, bdL, bdV_plain _ _ hcv1]) rfl))) (hall_of rfl) ?_
  refine vc_seq ?_
  refine vc_go (by kernel_rfl) fun K hK => hK _ _ _ ?_
  clear hK K
  refine vc_seq ?_
  refine vc_reg (by kernel_rfl) fun K hK => ?_
  refine run_n (z := false) 2 (fun K' hK' => hK' _ _ _ ?_) (by decide)
  clear hK' K'
  refine run_fc (fun k => if k = 0 then (0, 0) else if k = 1 then (4, 0) else if k = 2 then (5, 0) else if k = 3 then (6, 0) else (k - 3, 0)) h88 (hasF ⟨sf_winp (rcs_plain l) rfl get_zero, sf_winp rfl rfl get_zero, sf_win1 rfl rfl rfl, sf_win1 rfl rfl rfl, sf_winp (ics_plain ids) rfl get_zero, sf_win1 rfl rfl (renV_plain _ _ hcv1).symm, trivial⟩ rfl) rfl rfl rfl rfl ⟨_, _, rfl, rfl⟩ ?_
  rintro _ _ ⟨rfl, rfl⟩
  refine run_end (z := false) fun K' hK' => hK' _ _ _ (hK _ _ _ ?_)
  clear hK' K' hK K
  refine vc_ret ⟨.inr rfl, ?_⟩
  exact res_plain ⟨rfl, rfl⟩ rfl rfl rfl

theorem p111k1z {l : List Rn} {ids : List Int} {g c mc : Nat} {f : Rn → Int × Rn} {cv1 : Value} {ct1 : Nat} {ok : Bool} (hcv1 : plain cv1 = true) {l2 : List Rn} (h88 : FC 88 [qv 0 l.length c, .func (.func 126) #[] #[.pointer (some ⟨1, 0, none⟩), .pointer (some ⟨2, 0, none⟩), .pointer (some ⟨3, 0, none⟩)]] 6 [(0, .cells (rws rc l) 0 false), (1, .cells [.bool ok] 4 false), (2, .cells [.slice none 0 0] 61 false), (3, .cells [.func (.func g) #[] #[.pointer (some ⟨5, 0, none⟩)]] 152 false), (4, .cells (rws ic ids) 3 false), (5, .cells [cv1] ct1 false)] (fun v u => ∃ c2 sp2, plainL sp2 = true ∧ v = .tuple #[qv 6 l.length c2, .int .i64 0] ∧ u = [(6, .cells (rws rc l2 ++ sp2) 67 true)])) : FC 111 [qv 0 l.length c, .bool ok, .slice none 0 0, .func (.func g) #[] #[.pointer (some ⟨2, 0, none⟩)]] 3 [(0, .cells (rws rc l) 0 false), (1, .cells (rws ic ids) 3 false), (2, .cells [cv1] ct1 false)] (fun v u => ∃ c2 sp2, plainL sp2 = true ∧ v = .tuple #[qv 3 l.length c2, .int .i64 0] ∧ u = [(3, .cells (rws rc l2 ++ sp2) 67 true)]) := by
  refine fc_of [(0, .cells (rws rc l) 0 false), (1, .cells (rws ic ids) 3 false), (2, .cells [cv1] ct1 false)] 3 Try.func111 rfl Try.ntmps111 (by kernel_rfl) (by simp) rfl (bdH_c (by decide) (rcs_plain l) (bdH_c (by decide) (ics_plain ids) (bdH_b (by decide) (by simp [bdB, bdL, bdV_plain _ _ hcv1]) rfl))) (hall_of rfl) ?_
  refine vc_seq ?_
  refine vc_go (by kernel_rfl) fun K hK => hK _ _ _ ?_
  clear hK K
  refine vc_seq ?_
  refine vc_reg (by kernel_rfl) fun K hK => ?_
  refine run_n (z := false) 2 (fun K' hK' => hK' _ _ _ ?_) (by decide)
  clear hK' K'
  refine run_fc (fun k => if k = 0 then (0, 0) else if k = 1 then (4, 0) else if k = 2 then (5, 0) else if k = 3 then (6, 0) else (k - 3, 0)) h88 (hasF ⟨sf_winp (rcs_plain l) rfl get_zero, sf_winp rfl rfl get_zero, sf_win1 rfl rfl rfl, sf_win1 rfl rfl rfl, sf_winp (ics_plain ids) rfl get_zero, sf_win1 rfl rfl (renV_plain _ _ hcv1).symm, trivial⟩ rfl) rfl rfl rfl rfl ⟨_, _, 0, [], rfl, rfl, rfl⟩ ?_
  rintro _ _ ⟨c2, sp2, hp2, rfl, rfl⟩
  rw [renU_c (renB_p (plainL_append (rcs_plain _) hp2)) renU_nil]
  refine run_end (z := false) fun K' hK' => hK' _ _ _ (hK _ _ _ ?_)
  clear hK' K' hK K
  refine vc_ret ⟨.inr rfl, ?_⟩
  exact res_of 10 _ _ ⟨c2, sp2, hp2, rfl, rfl⟩ (Nat.le_of_ble_eq_true rfl) rfl rfl ⟨sbu (plainL_append (rcs_plain _) hp2) rfl, trivial⟩ (bdH_c (by decide) (plainL_append (rcs_plain _) hp2) rfl) rfl (.inl (by simp))
theorem p1111z {l : List Rn} {ids : List Int} {g c mc : Nat} {f : Rn → Int × Rn} {cv1 : Value} {ct1 : Nat} {ok : Bool} (hcv1 : plain cv1 = true) (hl : l.length ≤ 900) (hm : ids.length ≤ 900) (hnil : ids = [])  (hlen : (alR ok f l ids).2.length = l.length) :
    ((okq 0 l = false ∨ (alR ok f l ids).1 ≠ 0) ∧ FC 111 [qv 0 l.length c, .bool ok, .slice none 0 0, .func (.func g) #[] #[.pointer (some ⟨2, 0, none⟩)]] 3 [(0, .cells (rws rc l) 0 false), (1, .cells (rws ic ids) 3 false), (2, .cells [cv1] ct1 false)] (fun v u => v = .tuple #[qnil, .int .i64 (if okq 0 l = true then (alR ok f l ids).1 else 200)] ∧ u = [])) ∨ (okq 0 l = true ∧ (alR ok f l ids).1 = 0 ∧ FC 111 [qv 0 l.length c, .bool ok, .slice none 0 0, .func (.func g) #[] #[.pointer (some ⟨2, 0, none⟩)]] 3 [(0, .cells (rws rc l) 0 false), (1, .cells (rws ic ids) 3 false), (2, .cells [cv1] ct1 false)] (fun v u => ∃ c2 sp2, plainL sp2 = true ∧ v = .tuple #[qv 3 l.length c2, .int .i64 0] ∧ u = [(3, .cells (rws rc (alR ok f l ids).2 ++ sp2) 67 true)])) := by
  cases hq : okq 0 l
  · exact .inl ⟨.inl rfl, p111e1z (mc := mc) (f := f) hcv1 (p88ac1z (mc := mc) (f := f) hcv1 hl hm hq)⟩
  by_cases he : (alR ok f l ids).1 = 0
  · exact .inr ⟨rfl, he, p111k1z (mc := mc) (f := f) hcv1 (p88ak1z (mc := mc) (f := f) hcv1 hl hm he hlen hq fun c9 h9 => p1261z (mc := mc) (f := f) hcv1 hl hm h9 (zrow_plain rfl _) hnil)⟩
  · exact .inl ⟨.inr he, p111e1z (mc := mc) (f := f) hcv1 (p88ae1z (mc := mc) (f := f) hcv1 hl hm he hq fun c9 h9 => p1261z (mc := mc) (f := f) hcv1 hl hm h9 (zrow_plain rfl _) hnil)⟩

theorem p1261 {l : List Rn} {ids : List Int} {g c mc : Nat} {f : Rn → Int × Rn} {cv1 : Value} {ct1 : Nat} {ok : Bool} (hcv1 : plain cv1 = true) (hl : l.length ≤ 900) (hm : ids.length ≤ 900) {sp : List Value} (hc : l.length ≤ c) (hsp : plainL sp = true) (hdo : ok = true → ∀ (sp : List Value), plainL sp = true → ∀ (lc : List Rn) (i : Nat) (r : Rn), lc[i]? = some r → FC g [.pointer (some ⟨0, i * 5, none⟩), .pointer (some ⟨1, 0, none⟩)] 2 [(0, .cells (rws rc lc ++ sp) 67 true), (1, .cells [cv1] ct1 false)] (fun v u => v = .int .i64 (f r).1 ∧ u = [(0, .cells (rws rc (lc.set i (f r).2) ++ sp) 67 true)])) : FC 126 [.pointer (some ⟨0, 0, none⟩), .pointer (some ⟨2, 0, none⟩), .pointer (some ⟨3, 0, none⟩), .pointer (some ⟨4, 0, none⟩)] 7 [(0, .cells [.slice (some ⟨1, 0, none⟩) l.length c] 55 true), (1, .cells (rws rc l ++ sp) 67 true), (2, .cells [.bool ok] 4 false), (3, .cells [.slice (some ⟨5, 0, none⟩) ids.length mc] 61 false), (4, .cells [.func (.func g) #[] #[.pointer (some ⟨6, 0, none⟩)]] 152 false), (5, .cells (rws ic ids) 3 false), (6, .cells [cv1] ct1 false)] (fun v u => v = .int .i64 (alR ok f l ids).1 ∧ u = [(0, .cells [.slice (some ⟨1, 0, none⟩) l.length c] 55 true), (1, .cells (rws rc (alR ok f l ids).2 ++ sp) 67 true)]) := by
  cases ok
  · exact p126f1 (mc := mc) (f := f) hcv1 hl hm hc hsp
  · exact p126t1 (mc := mc) (f := f) hcv1 hl hm hc hsp (hdo rfl sp hsp)


theorem p88ae1 {l : List Rn} {ids : List Int} {g c mc : Nat} {f : Rn → Int × Rn} {cv1 : Value} {ct1 : Nat} {ok : Bool} (hcv1 : plain cv1 = true) (hl : l.length ≤ 900) (hm : ids.length ≤ 900) {e : Int} {l2 : List Rn} (he : e ≠ 0) (hq : okq 0 l = true) (h126 : ∀ c9, l.length ≤ c9 → FC 126 [.pointer (some ⟨0, 0, none⟩), .pointer (some ⟨2, 0, none⟩), .pointer (some ⟨3, 0, none⟩), .pointer (some ⟨4, 0, none⟩)] 7 [(0, .cells [.slice (some ⟨1, 0, none⟩) l.length c9] 55 true), (1, .cells (rws rc l ++ (zrow (c9 - l.length) z5)) 67 true), (2, .cells [.bool ok] 4 false), (3, .cells [.slice (some ⟨5, 0, none⟩) ids.length mc] 61 false), (4, .cells [.func (.func g) #[] #[.pointer (some ⟨6, 0, none⟩)]] 152 false), (5, .cells (rws ic ids) 3 false), (6, .cells [cv1] ct1 false)] (fun v u => v = .int .i64 e ∧ u = [(0, .cells [.slice (some ⟨1, 0, none⟩) l.length c9] 55 true), (1, .cells (rws rc l2 ++ (zrow (c9 - l.length) z5)) 67 true)])) : FC 88 [qv 0 l.length c, .func (.func 126) #[] #[.pointer (some ⟨1, 0, none⟩), .pointer (some ⟨2, 0, none⟩), .pointer (some ⟨3, 0, none⟩)]] 6 [(0, .cells (rws rc l) 0 false), (1, .cells [.bool ok] 4 false), (2, .cells [.slice (some ⟨4, 0, none⟩) ids.length mc] 61 false), (3, .cells [.func (.func g) #[] #[.pointer (some ⟨5, 0, none⟩)]] 152 false), (4, .cells (rws ic ids) 3 false), (5, .cells [cv1] ct1 false)] (fun v u => v = .tuple #[qnil, .int .i64 e] ∧ u = []) := by
  have h47 := p47 l c (by omega)
  rw [chk1_yes hq] at h47
  refine fc_of [(0, .cells (rws rc l) 0 false), (1, .cells [.bool ok] 4 false), (2, .cells [.slice (some ⟨4, 0, none⟩) ids.length mc] 61 false), (3, .cells [.func (.func g) #[] #[.pointer (some ⟨5, 0, none⟩)]] 152 false), (4, .cells (rws ic ids) 3 false), (5, .cells [cv1] ct1 false)] 6 Try.func88 rfl Try.ntmps88 (by kernel_rfl) (by simp) rfl (bdH_c (by decide) (rcs_plain l) (bdH_b (by decide) rfl (bdH_b (by decide) rfl (bdH_b (by decide) rfl (bdH_c (by decide) (ics_plain ids) (bdH_b (by decide) (by simp [bdB, bdL, bdV_plain _ _ hcv1]) rfl)))))) (hall_of rfl) ?_
  refine vc_seq ?_
  refine vc_go (by kernel_rfl) fun K hK => hK _ _ _ ?_
  clear hK K
  refine vc_seq ?_
  refine vc_seq ?_
  refine vc_reg (by kernel_rfl) fun K hK => ?_
  refine run_n (z := false) 1 (fun K' hK' => hK' _ _ _ ?_) (by decide)
  clear hK' K'
  refine run_ro (fun _ => (0, 0)) (h47) ?_ rfl rfl rfl rfl ?_
  · intro x hx
    simp only [List.mem_singleton] at hx
    subst hx
    exact ⟨_, _, _, rfl, fun i v hv => by rw [Nat.zero_add]; exact hv⟩
  refine run_end (z := false) fun K' hK' => hK' _ _ _ (hK _ _ _ ?_)
  clear hK' K' hK K
  refine vc_seq ?_
  refine vc_go (by kernel_rfl) fun K hK => hK _ _ _ ?_
  clear hK K
  refine vc_cond (t := false) rfl (fun h => by cases h) (fun _ => ?_)
  refine vc_skip ?_
  refine vc_seq ?_
  refine vc_reg (by kernel_rfl) fun K hK => ?_
  refine run_n (z := false) 2 (fun K' hK' => hK' _ _ _ ?_) (by decide)
  clear hK' K'
  refine run_fc (fun k => (k, 0)) (p118 c (by omega)) (hasF ⟨sf_winp (rcs_plain l) rfl get_zero, trivial⟩ rfl) rfl rfl rfl rfl ⟨_, _, l.length, Nat.le_refl _, rfl, rfl⟩ ?_
  rintro _ _ ⟨c2, hc2, rfl, rfl⟩
  rw [renU_c (renB_p (spare_plain l _)) renU_nil]
  refine run_end (z := false) fun K' hK' => hK' _ _ _ (hK _ _ _ ?_)
  clear hK' K' hK K
  refine vc_seq ?_
  refine vc_seq ?_
  refine vc_reg (by kernel_rfl) fun K hK => ?_
  refine run_n (z := false) 1 (fun K' hK' => hK' _ _ _ ?_) (by decide)
  clear hK' K'
  refine run_fc (fun k => if k = 0 then (12, 0) else if k = 1 then (10, 0) else (k - 1, 0)) (h126 c2 hc2) (hasF ⟨sf_own rfl rfl, sf_ownp (spare_plain l _) rfl rfl, sf_winp rfl rfl get_zero, sf_win1 rfl rfl rfl, sf_win1 rfl rfl rfl, sf_winp (ics_plain ids) rfl get_zero, sf_win1 rfl rfl (renV_plain _ _ hcv1).symm, trivial⟩ rfl) rfl rfl rfl rfl ⟨_, _, rfl, rfl⟩ ?_
  rintro _ _ ⟨rfl, rfl⟩
  rw [renU_c rfl (renU_c (renB_p (plainL_append (rcs_plain l2) (zrow_plain rfl _))) renU_nil)]
  refine run_end (z := false) fun K' hK' => hK' _ _ _ (hK _ _ _ ?_)
  clear hK' K' hK K
  refine vc_seq ?_
  refine vc_go (by kernel_rfl) fun K hK => hK _ _ _ ?_
  clear hK K
  refine vc_cond (t := true) (bb (bne_iff_ne.2 he)) (fun _ => ?_) (fun h => by cases h)
  refine vc_seq ?_
  refine vc_go (by kernel_rfl) fun K hK => hK _ _ _ ?_
  clear hK K
  refine vc_ret ⟨.inr rfl, ?_⟩
  exact res_plain ⟨rfl, rfl⟩ rfl rfl rfl

theorem p88ak1 {l : List Rn} {ids : List Int} {g c mc : Nat} {f : Rn → Int × Rn} {cv1 : Value} {ct1 : Nat} {ok : Bool} (hcv1 : plain cv1 = true) (hl : l.length ≤ 900) (hm : ids.length ≤ 900) {e : Int} {l2 : List Rn} (he : e = 0) (hlen : l2.length = l.length) (hq : okq 0 l = true) (h126 : ∀ c9, l.length ≤ c9 → FC 126 [.pointer (some ⟨0, 0, none⟩), .pointer (some ⟨2, 0, none⟩), .pointer (some ⟨3, 0, none⟩), .pointer (some ⟨4, 0, none⟩)] 7 [(0, .cells [.slice (some ⟨1, 0, none⟩) l.length c9] 55 true), (1, .cells (rws rc l ++ (zrow (c9 - l.length) z5)) 67 true), (2, .cells [.bool ok] 4 false), (3, .cells [.slice (some ⟨5, 0, none⟩) ids.length mc] 61 false), (4, .cells [.func (.func g) #[] #[.pointer (some ⟨6, 0, none⟩)]] 152 false), (5, .cells (rws ic ids) 3 false), (6, .cells [cv1] ct1 false)] (fun v u => v = .int .i64 e ∧ u = [(0, .cells [.slice (some ⟨1, 0, none⟩) l.length c9] 55 true), (1, .cells (rws rc l2 ++ (zrow (c9 - l.length) z5)) 67 true)])) : FC 88 [qv 0 l.length c, .func (.func 126) #[] #[.pointer (some ⟨1, 0, none⟩), .pointer (some ⟨2, 0, none⟩), .pointer (some ⟨3, 0, none⟩)]] 6 [(0, .cells (rws rc l) 0 false), (1, .cells [.bool ok] 4 false), (2, .cells [.slice (some ⟨4, 0, none⟩) ids.length mc] 61 false), (3, .cells [.func (.func g) #[] #[.pointer (some ⟨5, 0, none⟩)]] 152 false), (4, .cells (rws ic ids) 3 false), (5, .cells [cv1] ct1 false)] (fun v u => ∃ c2 sp2, plainL sp2 = true ∧ v = .tuple #[qv 6 l.length c2, .int .i64 0] ∧ u = [(6, .cells (rws rc l2 ++ sp2) 67 true)]) := by
  have h47 := p47 l c (by omega)
  rw [chk1_yes hq] at h47
  subst he
  refine fc_of [(0, .cells (rws rc l) 0 false), (1, .cells [.bool ok] 4 false), (2, .cells [.slice (some ⟨4, 0, none⟩) ids.length mc] 61 false), (3, .cells [.func (.func g) #[] #[.pointer (some ⟨5, 0, none⟩)]] 152 false), (4, .cells (rws ic ids) 3 false), (5, .cells [cv1] ct1 false)] 6 Try.func88 rfl Try.ntmps88 (by kernel_rfl) (by simp) rfl (bdH_c (by decide) (rcs_plain l) (bdH_b (by decide) rfl (bdH_b (by decide) rfl (bdH_b (by decide) rfl (bdH_c (by decide) (ics_plain ids) (bdH_b (by decide) (by simp [bdB, bdL, bdV_plain _ _ hcv1]) rfl)))))) (hall_of rfl) ?_
  refine vc_seq ?_
  refine vc_go (by kernel_rfl) fun K hK => hK _ _ _ ?_
  clear hK K
  refine vc_seq ?_
  refine vc_seq ?_
  refine vc_reg (by kernel_rfl) fun K hK => ?_
  refine run_n (z := false) 1 (fun K' hK' => hK' _ _ _ ?_) (by decide)
  clear hK' K'
  refine run_ro (fun _ => (0, 0)) (h47) ?_ rfl rfl rfl rfl ?_
  · intro x hx
    simp only [List.mem_singleton] at hx
    subst hx
    exact ⟨_, _, _, rfl, fun i v hv => by rw [Nat.zero_add]; exact hv⟩
  refine run_end (z := false) fun K' hK' => hK' _ _ _ (hK _ _ _ ?_)
  clear hK' K' hK K
  refine vc_seq ?_
  refine vc_go (by kernel_rfl) fun K hK => hK _ _ _ ?_
  clear hK K
  refine vc_cond (t := false) rfl (fun h => by cases h) (fun _ => ?_)
  refine vc_skip ?_
  refine vc_seq ?_
  refine vc_reg (by kernel_rfl) fun K hK => ?_
  refine run_n (z := false) 2 (fun K' hK' => hK' _ _ _ ?_) (by decide)
  clear hK' K'
  refine run_fc (fun k => (k, 0)) (p118 c (by omega)) (hasF ⟨sf_winp (rcs_plain l) rfl get_zero, trivial⟩ rfl) rfl rfl rfl rfl ⟨_, _, l.length, Nat.le_refl _, rfl, rfl⟩ ?_
  rintro _ _ ⟨c2, hc2, rfl, rfl⟩
  rw [renU_c (renB_p (spare_plain l _)) renU_nil]
  refine run_end (z := false) fun K' hK' => hK' _ _ _ (hK _ _ _ ?_)
  clear hK' K' hK K
  refine vc_seq ?_
  refine vc_seq ?_
  refine vc_reg (by kernel_rfl) fun K hK => ?_
  refine run_n (z := false) 1 (fun K' hK' => hK' _ _ _ ?_) (by decide)
  clear hK' K'
  refine run_fc (fun k => if k = 0 then (12, 0) else if k = 1 then (10, 0) else (k - 1, 0)) (h126 c2 hc2) (hasF ⟨sf_own rfl rfl, sf_ownp (spare_plain l _) rfl rfl, sf_winp rfl rfl get_zero, sf_win1 rfl rfl rfl, sf_win1 rfl rfl rfl, sf_winp (ics_plain ids) rfl get_zero, sf_win1 rfl rfl (renV_plain _ _ hcv1).symm, trivial⟩ rfl) rfl rfl rfl rfl ⟨_, _, rfl, rfl⟩ ?_
  rintro _ _ ⟨rfl, rfl⟩
  rw [renU_c rfl (renU_c (renB_p (plainL_append (rcs_plain l2) (zrow_plain rfl _))) renU_nil)]
  refine run_end (z := false) fun K' hK' => hK' _ _ _ (hK _ _ _ ?_)
  clear hK' K' hK K
  refine vc_seq ?_
  refine vc_go (by kernel_rfl) fun K hK => hK _ _ _ ?_
  clear hK K
  refine vc_cond (t := false) rfl (fun h => by cases h) (fun _ => ?_)
  refine vc_skip ?_
  refine vc_seq ?_
  refine vc_go (by kernel_rfl) fun K hK => hK _ _ _ ?_
  clear hK K
  refine vc_ret ⟨.inr rfl, ?_⟩
  exact res_of 10 _ _ ⟨c2, zrow (c2 - l.length) z5, zrow_plain rfl _, rfl, rfl⟩ (Nat.le_of_ble_eq_true rfl) rfl rfl ⟨sbu (plainL_append (rcs_plain _) (zrow_plain rfl _)) rfl, trivial⟩ (bdH_c (by decide) (plainL_append (rcs_plain _) (zrow_plain rfl _)) rfl) rfl (.inl (by simp))

theorem p88ac1 {l : List Rn} {ids : List Int} {g c mc : Nat} {f : Rn → Int × Rn} {cv1 : Value} {ct1 : Nat} {ok : Bool} (hcv1 : plain cv1 = true) (hl : l.length ≤ 900) (hm : ids.length ≤ 900) (hq : okq 0 l = false) : FC 88 [qv 0 l.length c, .func (.func 126) #[] #[.pointer (some ⟨1, 0, none⟩), .pointer (some ⟨2, 0, none⟩), .pointer (some ⟨3, 0, none⟩)]] 6 [(0, .cells (rws rc l) 0 false), (1, .cells [.bool ok] 4 false), (2, .cells [.slice (some ⟨4, 0, none⟩) ids.length mc] 61 false), (3, .cells [.func (.func g) #[] #[.pointer (some ⟨5, 0, none⟩)]] 152 false), (4, .cells (rws ic ids) 3 false), (5, .cells [cv1] ct1 false)] (fun v u => v = .tuple #[qnil, .int .i64 200] ∧ u = []) := by
  have h47 := p47 l c (by omega)
  rw [chk1_no hq] at h47
  refine fc_of [(0, .cells (rws rc l) 0 false), (1, .cells [.bool ok] 4 false), (2, .cells [.slice (some ⟨4, 0, none⟩) ids.length mc] 61 false), (3, .cells [.func (.func g) #[] #[.pointer (some ⟨5, 0, none⟩)]] 152 false), (4, .cells (rws ic ids) 3 false), (5, .cells [cv1] ct1 false)] 6 Try.func88 rfl Try.ntmps88 (by kernel_rfl) (by simp) rfl (bdH_c (by decide) (rcs_plain l) (bdH_b (by decide) rfl (bdH_b (by decide) rfl (bdH_b (by decide) rfl (bdH_c (by decide) (ics_plain ids) (bdH_b (by decide) (by simp [bdB, bdL, bdV_plain _ _ hcv1]) rfl)))))) (hall_of rfl) ?_
  refine vc_seq ?_
  refine vc_go (by kernel_rfl) fun K hK => hK _ _ _ ?_
  clear hK K
  refine vc_seq ?_
  refine vc_seq ?_
  refine vc_reg (by kernel_rfl) fun K hK => ?_
  refine run_n (z := false) 1 (fun K' hK' => hK' _ _ _ ?_) (by decide)
  clear hK' K'
  refine run_ro (fun _ => (0, 0)) (h47) ?_ rfl rfl rfl rfl ?_
  · intro x hx
    simp only [List.mem_singleton] at hx
    subst hx
    exact ⟨_, _, _, rfl, fun i v hv => by rw [Nat.zero_add]; exact hv⟩
  refine run_end (z := false) fun K' hK' => hK' _ _ _ (hK _ _ _ ?_)
  clear hK' K' hK K
  refine vc_seq ?_
  refine vc_go (by kernel_rfl) fun K hK => hK _ _ _ ?_
  clear hK K
  refine vc_cond (t := true) rfl (fun _ => ?_) (fun h => by cases h)
  refine vc_seq ?_
  refine vc_go (by kernel_rfl) fun K hK => hK _ _ _ ?_
  clear hK K
  refine vc_ret ⟨.inr rfl, ?_⟩
  exact res_plain ⟨rfl, rfl⟩ rfl rfl rfl

theorem p111e1 {l : List Rn} {ids : List Int} {g c mc : Nat} {f : Rn → Int × Rn} {cv1 : Value} {ct1 : Nat} {ok : Bool} (hcv1 : plain cv1 = true) {e : Int} (h88 : FC 88 [qv 0 l.length c, .func (.func 126) #[] #[.pointer (some ⟨1, 0, none⟩), .pointer (some ⟨2, 0, none⟩), .pointer (some ⟨3, 0, none⟩)]] 6 [(0, .cells (rws rc l) 0 false), (1, .cells [.bool ok] 4 false), (2, .cells [.slice (some ⟨4, 0, none⟩) ids.length mc] 61 false), (3, .cells [.func (.func g) #[] #[.pointer (some ⟨5, 0, none⟩)]] 152 false), (4, .cells (rws ic ids) 3 false), (5, .cells [cv1] ct1 false)] (fun v u => v = .tuple #[qnil, .int .i64 e] ∧ u = [])) : FC 111 [qv 0 l.length c, .bool ok, .slice (some ⟨1, 0, none⟩) ids.length mc, .func (.func g) #[] #[.pointer (some ⟨2, 0, none⟩)]] 3 [(0, .cells (rws rc l) 0 false), (1, .cells (rws ic ids) 3 false), (2, .cells [cv1] ct1 false)] (fun v u => v = .tuple #[qnil, .int .i64 e] ∧ u = []) := by
  refine fc_of [(0, .cells (rws rc l) 0 false), (1, .cells (rws ic ids) 3 false), (2, .cells [cv1] ct1 false)] 3 Try.func111 rfl Try.ntmps111 (by kernel_rfl) (by simp) rfl (bdH_c (by decide) (rcs_plain l) (bdH_c (by decide) (ics_plain ids) (bdH_b (by decide) (by simp [bdB, bdL, bdV_plain _ _ hcv1]) rfl))) (hall_of rfl) ?_
  refine vc_seq ?_
  refine vc_go (by kernel_rfl) fun K hK => hK _ _ _ ?_
  clear hK K
  refine vc_seq ?_
  refine vc_reg (by kernel_rfl) fun K hK => ?_
  refine run_n (z := false) 2 (fun K' hK' => hK' _ _ _ ?_) (by decide)
  clear hK' K'
  refine run_fc (fun k => if k = 0 then (0, 0) else if k = 1 then (4, 0) else if k = 2 then (5, 0) else if k = 3 then (6, 0) else (k - 3, 0)) h88 (hasF ⟨sf_winp (rcs_plain l) rfl get_zero, sf_winp rfl rfl get_zero, sf_win1 rfl rfl rfl, sf_win1 rfl rfl rfl, sf_winp (ics_plain ids) rfl get_zero, sf_win1 rfl rfl (renV_plain _ _ hcv1).symm, trivial⟩ rfl) rfl rfl rfl rfl ⟨_, _, rfl, rfl⟩ ?_
  rintro _ _ ⟨rfl, rfl⟩
  refine run_end (z := false) fun K' hK' => hK' _ _ _ (hK _ _ _ ?_)
  clear hK' K' hK K
  refine vc_ret ⟨.inr rfl, ?_⟩
  exact res_plain ⟨rfl, rfl⟩ rfl rfl rfl

theorem p111k1 {l : List Rn} {ids : List Int} {g c mc : Nat} {f : Rn → Int × Rn} {cv1 : Value} {ct1 : Nat} {ok : Bool} (hcv1 : plain cv1 = true) {l2 : List Rn} (h88 : FC 88 [qv 0 l.length c, .func (.func 126) #[] #[.pointer (some ⟨1, 0, none⟩), .pointer (some ⟨2, 0, none⟩), .pointer (some ⟨3, 0, none⟩)]] 6 [(0, .cells (rws rc l) 0 false), (1, .cells [.bool ok] 4 false), (2, .cells [.slice (some ⟨4, 0, none⟩) ids.length mc] 61 false), (3, .cells [.func (.func g) #[] #[.pointer (some ⟨5, 0, none⟩)]] 152 false), (4, .cells (rws ic ids) 3 false), (5, .cells [cv1] ct1 false)] (fun v u => ∃ c2 sp2, plainL sp2 = true ∧ v = .tuple #[qv 6 l.length c2, .int .i64 0] ∧ u = [(6, .cells (rws rc l2 ++ sp2) 67 true)])) : FC 111 [qv 0 l.length c, .bool ok, .slice (some ⟨1, 0, none⟩) ids.length mc, .func (.func g) #[] #[.pointer (some ⟨2, 0, none⟩)]] 3 [(0, .cells (rws rc l) 0 false), (1, .cells (rws ic ids) 3 false), (2, .cells [cv1] ct1 false)] (fun v u => ∃ c2 sp2, plainL sp2 = true ∧ v = .tuple #[qv 3 l.length c2, .int .i64 0] ∧ u = [(3, .cells (rws rc l2 ++ sp2) 67 true)]) := by
  refine fc_of [(0, .cells (rws rc l) 0 false), (1, .cells (rws ic ids) 3 false), (2, .cells [cv1] ct1 false)] 3 Try.func111 rfl Try.ntmps111 (by kernel_rfl) (by simp) rfl (bdH_c (by decide) (rcs_plain l) (bdH_c (by decide) (ics_plain ids) (bdH_b (by decide) (by simp [bdB, bdL, bdV_plain _ _ hcv1]) rfl))) (hall_of rfl) ?_
  refine vc_seq ?_
  refine vc_go (by kernel_rfl) fun K hK => hK _ _ _ ?_
  clear hK K
  refine vc_seq ?_
  refine vc_reg (by kernel_rfl) fun K hK => ?_
  refine run_n (z := false) 2 (fun K' hK' => hK' _ _ _ ?_) (by decide)
  clear hK' K'
  refine run_fc (fun k => if k = 0 then (0, 0) else if k = 1 then (4, 0) else if k = 2 then (5, 0) else if k = 3 then (6, 0) else (k - 3, 0)) h88 (hasF ⟨sf_winp (rcs_plain l) rfl get_zero, sf_winp rfl rfl get_zero, sf_win1 rfl rfl rfl, sf_win1 rfl rfl rfl, sf_winp (ics_plain ids) rfl get_zero, sf_win1 rfl rfl (renV_plain _ _ hcv1).symm, trivial⟩ rfl) rfl rfl rfl rfl ⟨_, _, 0, [], rfl, rfl, rfl⟩ ?_
  rintro _ _ ⟨c2, sp2, hp2, rfl, rfl⟩
  rw [renU_c (renB_p (plainL_append (rcs_plain _) hp2)) renU_nil]
  refine run_end (z := false) fun K' hK' => hK' _ _ _ (hK _ _ _ ?_)
  clear hK' K' hK K
  refine vc_ret ⟨.inr rfl, ?_⟩
  exact res_of 10 _ _ ⟨c2, sp2, hp2, rfl, rfl⟩ (Nat.le_of_ble_eq_true rfl) rfl rfl ⟨sbu (plainL_append (rcs_plain _) hp2) rfl, trivial⟩ (bdH_c (by decide) (plainL_append (rcs_plain _) hp2) rfl) rfl (.inl (by simp))
theorem p1111 {l : List Rn} {ids : List Int} {g c mc : Nat} {f : Rn → Int × Rn} {cv1 : Value} {ct1 : Nat} {ok : Bool} (hcv1 : plain cv1 = true) (hl : l.length ≤ 900) (hm : ids.length ≤ 900) (hdo : ok = true → ∀ (sp : List Value), plainL sp = true → ∀ (lc : List Rn) (i : Nat) (r : Rn), lc[i]? = some r → FC g [.pointer (some ⟨0, i * 5, none⟩), .pointer (some ⟨1, 0, none⟩)] 2 [(0, .cells (rws rc lc ++ sp) 67 true), (1, .cells [cv1] ct1 false)] (fun v u => v = .int .i64 (f r).1 ∧ u = [(0, .cells (rws rc (lc.set i (f r).2) ++ sp) 67 true)])) (hlen : (alR ok f l ids).2.length = l.length) :
    ((okq 0 l = false ∨ (alR ok f l ids).1 ≠ 0) ∧ FC 111 [qv 0 l.length c, .bool ok, .slice (some ⟨1, 0, none⟩) ids.length mc, .func (.func g) #[] #[.pointer (some ⟨2, 0, none⟩)]] 3 [(0, .cells (rws rc l) 0 false), (1, .cells (rws ic ids) 3 false), (2, .cells [cv1] ct1 false)] (fun v u => v = .tuple #[qnil, .int .i64 (if okq 0 l = true then (alR ok f l ids).1 else 200)] ∧ u = [])) ∨ (okq 0 l = true ∧ (alR ok f l ids).1 = 0 ∧ FC 111 [qv 0 l.length c, .bool ok, .slice (some ⟨1, 0, none⟩) ids.length mc, .func (.func g) #[] #[.pointer (some ⟨2, 0, none⟩)]] 3 [(0, .cells (rws rc l) 0 false), (1, .cells (rws ic ids) 3 false), (2, .cells [cv1] ct1 false)] (fun v u => ∃ c2 sp2, plainL sp2 = true ∧ v = .tuple #[qv 3 l.length c2, .int .i64 0] ∧ u = [(3, .cells (rws rc (alR ok f l ids).2 ++ sp2) 67 true)])) := by
  cases hq : okq 0 l
  · exact .inl ⟨.inl rfl, p111e1 (mc := mc) (f := f) hcv1 (p88ac1 (mc := mc) (f := f) hcv1 hl hm hq)⟩
  by_cases he : (alR ok f l ids).1 = 0
  · exact .inr ⟨rfl, he, p111k1 (mc := mc) (f := f) hcv1 (p88ak1 (mc := mc) (f := f) hcv1 hl hm he hlen hq fun c9 h9 => p1261 (mc := mc) (f := f) hcv1 hl hm h9 (zrow_plain rfl _) hdo)⟩
  · exact .inl ⟨.inr he, p111e1 (mc := mc) (f := f) hcv1 (p88ae1 (mc := mc) (f := f) hcv1 hl hm he hq fun c9 h9 => p1261 (mc := mc) (f := f) hcv1 hl hm h9 (zrow_plain rfl _) hdo)⟩

theorem p1262 {l : List Rn} {ids : List Int} {g c mc : Nat} {f : Rn → Int × Rn} {cv1 cv2 : Value} {ct1 ct2 : Nat} {ok : Bool} (hcv1 : plain cv1 = true) (hcv2 : plain cv2 = true) (hl : l.length ≤ 900) (hm : ids.length ≤ 900) {sp : List Value} (hc : l.length ≤ c) (hsp : plainL sp = true) (hdo : ok = true → ∀ (sp : List Value), plainL sp = true → ∀ (lc : List Rn) (i : Nat) (r : Rn), lc[i]? = some r → FC g [.pointer (some ⟨0, i * 5, none⟩), .pointer (some ⟨1, 0, none⟩), .pointer (some ⟨2, 0, none⟩)] 3 [(0, .cells (rws rc lc ++ sp) 67 true), (1, .cells [cv1] ct1 false), (2, .cells [cv2] ct2 false)] (fun v u => v = .int .i64 (f r).1 ∧ u = [(0, .cells (rws rc (lc.set i (f r).2) ++ sp) 67 true)])) : FC 126 [.pointer (some ⟨0, 0, none⟩), .pointer (some ⟨2, 0, none⟩), .pointer (some ⟨3, 0, none⟩), .pointer (some ⟨4, 0, none⟩)] 8 [(0, .cells [.slice (some ⟨1, 0, none⟩) l.length c] 55 true), (1, .cells (rws rc l ++ sp) 67 true), (2, .cells [.bool ok] 4 false), (3, .cells [.slice (some ⟨5, 0, none⟩) ids.length mc] 61 false), (4, .cells [.func (.func g) #[] #[.pointer (some ⟨6, 0, none⟩), .pointer (some ⟨7, 0, none⟩)]] 152 false), (5, .cells (rws ic ids) 3 false), (6, .cells [cv1] ct1 false), (7, .cells [cv2] ct2 false)] (fun v u => v = .int .i64 (alR ok f l ids).1 ∧ u = [(0, .cells [.slice (some ⟨1, 0, none⟩) l.length c] 55 true), (1, .cells (rws rc (alR ok f l ids).2 ++ sp) 67 true)]) := by
  cases ok
  · exact p126f2 (mc := mc) (f := f) hcv1 hcv2 hl hm hc hsp
  · exact p126t2 (mc := mc) (f := f) hcv1 hcv2 hl hm hc hsp (hdo rfl sp hsp)


theorem p88ae2 {l : List Rn} {ids : List Int} {g c mc : Nat} {f : Rn → Int × Rn} {cv1 cv2 : Value} {ct1 ct2 : Nat} {ok : Bool} (hcv1 : plain cv1 = true) (hcv2 : plain cv2 = true) (hl : l.length ≤ 900) (hm : ids.length ≤ 900) {e : Int} {l2 : List Rn} (he : e ≠ 0) (hq : okq 0 l = true) (h126 : ∀ c9, l.length ≤ c9 → FC 126 [.pointer (some ⟨0, 0, none⟩), .pointer (some ⟨2, 0, none⟩), .pointer (some ⟨3, 0, none⟩), .pointer (some ⟨4, 0, none⟩)] 8 [(0, .cells [.slice (some ⟨1, 0, none⟩) l.length c9] 55 true), (1, .cells (rws rc l ++ (zrow (c9 - l.length) z5)) 67 true), (2, .cells [.bool ok] 4 false), (3, .cells [.slice (some ⟨5, 0, none⟩) ids.length mc] 61 false), (4, .cells [.func (.func g) #[] #[.pointer (some ⟨6, 0, none⟩), .pointer (some ⟨7, 0, none⟩)]] 152 false), (5, .cells (rws ic ids) 3 false), (6, .cells [cv1] ct1 false), (7, .cells [cv2] ct2 false)] (fun v u => v = .int .i64 e ∧ u = [(0, .cells [.slice (some ⟨1, 0, none⟩) l.length c9] 55 true), (1, .cells (rws rc l2 ++ (zrow (c9 - l.length) z5)) 67 true)])) : FC 88 [qv 0 l.length c, .func (.func 126) #[] #[.pointer (some ⟨1, 0, none⟩), .pointer (some ⟨2, 0, none⟩), .pointer (some ⟨3, 0, none⟩)]] 7 [(0, .cells (rws rc l) 0 false), (1, .cells [.bool ok] 4 false), (2, .cells [.slice (some ⟨4, 0, none⟩) ids.length mc] 61 false), (3, .cells [.func (.func g) #[] #[.pointer (some ⟨5, 0, none⟩), .pointer (some ⟨6, 0, none⟩)]] 152 false), (4, .cells (rws ic ids) 3 false), (5, .cells [cv1] ct1 false), (6, .cells [cv2] ct2 false)] (fun v u => v = .tuple #[qnil, .int .i64 e] ∧ u = []) := by
  have h47 := p47 l c (by omega)
  rw [chk1_yes hq] at h47
  refine fc_of [(0, .cells (rws rc l) 0 false), (1, .cells [.bool ok] 4 false), (2, .cells [.slice (some ⟨4, 0, none⟩) ids.length mc] 61 false), (3, .cells [.func (.func g) #[] #[.pointer (some ⟨5, 0, none⟩), .pointer (some ⟨6, 0, none⟩)]] 152 false), (4, .cells (rws ic ids) 3 false), (5, .cells [cv1] ct1 false), (6, .cells [cv2] ct2 false)] 7 Try.func88 rfl Try.ntmps88 (by kernel_rfl) (by simp) rfl (bdH_c (by decide) (rcs_plain l) (bdH_b (by decide) rfl (bdH_b (by decide) rfl (bdH_b (by decide) rfl (bdH_c (by decide) (ics_plain ids) (bdH_b (by decide) (by simp [bdB, bdL, bdV_plain _ _ hcv1]) (bdH_b (by decide) (by simp [bdB, bdL, bdV_plain _ _ hcv2]) rfl))))))) (hall_of rfl) ?_
  refine vc_seq ?_
  refine vc_go (by kernel_rfl) fun K hK => hK _ _ _ ?_
  clear hK K
  refine vc_seq ?_
  refine vc_seq ?_
  refine vc_reg (by kernel_rfl) fun K hK => ?_
  refine run_n (z := false) 1 (fun K' hK' => hK' _ _ _ ?_) (by decide)
  clear hK' K'
  refine run_ro (fun _ => (0, 0)) (h47) ?_ rfl rfl rfl rfl ?_
  · intro x hx
    simp only [List.mem_singleton] at hx
    subst hx
    exact ⟨_, _, _, rfl, fun i v hv => by rw [Nat.zero_add]; exact hv⟩
  refine run_end (z := false) fun K' hK' => hK' _ _ _ (hK _ _ _ ?_)
  clear hK' K' hK K
  refine vc_seq ?_
  refine vc_go (by kernel_rfl) fun K hK => hK _ _ _ ?_
  clear hK K
  refine vc_cond (t := false) rfl (fun h => by cases h) (fun _ => ?_)
  refine vc_skip ?_
  refine vc_seq ?_
  refine vc_reg (by kernel_rfl) fun K hK => ?_
  refine run_n (z := false) 2 (fun K' hK' => hK' _ _ _ ?_) (by decide)
  clear hK' K'
  refine run_fc (fun k => (k, 0)) (p118 c (by omega)) (hasF ⟨sf_winp (rcs_plain l) rfl get_zero, trivial⟩ rfl) rfl rfl rfl rfl ⟨_, _, l.length, Nat.le_refl _, rfl, rfl⟩ ?_
  rintro _ _ ⟨c2, hc2, rfl, rfl⟩
  rw [renU_c (renB_p (spare_plain l _)) renU_nil]
  refine run_end (z := false) fun K' hK' => hK' _ _ _ (hK _ _ _ ?_)
  clear hK' K' hK K
  refine vc_seq ?_
  refine vc_seq ?_
  refine vc_reg (by kernel_rfl) fun K hK => ?_
  refine run_n (z := false) 1 (fun K' hK' => hK' _ _ _ ?_) (by decide)
  clear hK' K'
  refine run_fc (fun k => if k = 0 then (13, 0) else if k = 1 then (11, 0) else (k - 1, 0)) (h126 c2 hc2) (hasF ⟨sf_own rfl rfl, sf_ownp (spare_plain l _) rfl rfl, sf_winp rfl rfl get_zero, sf_win1 rfl rfl rfl, sf_win1 rfl rfl rfl, sf_winp (ics_plain ids) rfl get_zero, sf_win1 rfl rfl (renV_plain _ _ hcv1).symm, sf_win1 rfl rfl (renV_plain _ _ hcv2).symm, trivial⟩ rfl) rfl rfl rfl rfl ⟨_, _, rfl, rfl⟩ ?_
  rintro _ _ ⟨rfl, rfl⟩
  rw [renU_c rfl (renU_c (renB_p (plainL_append (rcs_plain l2) (zrow_plain rfl _))) renU_nil)]
  refine run_end (z := false) fun K' hK' => hK' _ _ _ (hK _ _ _ ?_)
  clear hK' K' hK K
  refine vc_seq ?_
  refine vc_go (by kernel_rfl) fun K hK => hK _ _ _ ?_
  clear hK K
  refine vc_cond (t := true) (bb (bne_iff_ne.2 he)) (fun _ => ?_) (fun h => by cases h)
  refine vc_seq ?_
  refine vc_go (by kernel_rfl) fun K hK => hK _ _ _ ?_
  clear hK K
  refine vc_ret ⟨.inr rfl, ?_⟩
  exact res_plain ⟨rfl, rfl⟩ rfl rfl rfl

theorem p88ak2 {l : List Rn} {ids : List Int} {g c mc : Nat} {f : Rn → Int × Rn} {cv1 cv2 : Value} {ct1 ct2 : Nat} {ok : Bool} (hcv1 : plain cv1 = true) (hcv2 : plain cv2 = true) (hl : l.length ≤ 900) (hm : ids.length ≤ 900) {e : Int} {l2 : List Rn} (he : e = 0) (hlen : l2.length = l.length) (hq : okq 0 l = true) (h126 : ∀ c9, l.length ≤ c9 → FC 126 [.pointer (some ⟨0, 0, none⟩), .pointer (some ⟨2, 0, none⟩), .pointer (some ⟨3, 0, none⟩), .pointer (some ⟨4, 0, none⟩)] 8 [(0, .cells [.slice (some ⟨1, 0, none⟩) l.length c9] 55 true), (1, .cells (rws rc l ++ (zrow (c9 - l.length) z5)) 67 true), (2, .cells [.bool ok] 4 false), (3, .cells [.slice (some ⟨5, 0, none⟩) ids.length mc] 61 false), (4, .cells [.func (.func g) #[] #[.pointer (some ⟨6, 0, none⟩), .pointer (some ⟨7, 0, none⟩)]] 152 false), (5, .cells (rws ic ids) 3 false), (6, .cells [cv1] ct1 false), (7, .cells [cv2] ct2 false)] (fun v u => v = .int .i64 e ∧ u = [(0, .cells [.slice (some ⟨1, 0, none⟩) l.length c9] 55 true), (1, .cells (rws rc l2 ++ (zrow (c9 - l.length) z5)) 67 true)])) : FC 88 [qv 0 l.length c, .func (.func 126) #[] #[.pointer (some ⟨1, 0, none⟩), .pointer (some ⟨2, 0, none⟩), .pointer (some ⟨3, 0, none⟩)]] 7 [(0, .cells (rws rc l) 0 false), (1, .cells [.bool ok] 4 false), (2, .cells [.slice (some ⟨4, 0, none⟩) ids.length mc] 61 false), (3, .cells [.func (.func g) #[] #[.pointer (some ⟨5, 0, none⟩), .pointer (some ⟨6, 0, none⟩)]] 152 false), (4, .cells (rws ic ids) 3 false), (5, .cells [cv1] ct1 false), (6, .cells [cv2] ct2 false)] (fun v u => ∃ c2 sp2, plainL sp2 = true ∧ v = .tuple #[qv 7 l.length c2, .int .i64 0] ∧ u = [(7, .cells (rws rc l2 ++ sp2) 67 true)]) := by
  have h47 := p47 l c (by omega)
  rw [chk1_yes hq] at h47
  subst he
  refine fc_of [(0, .cells (rws rc l) 0 false), (1, .cells [.bool ok] 4 false), (2, .cells [.slice (some ⟨4, 0, none⟩) ids.length mc] 61 false), (3, .cells [.func (.func g) #[] #[.pointer (some ⟨5, 0, none⟩), .pointer (some ⟨6, 0, none⟩)]] 152 false), (4, .cells (rws ic ids) 3 false), (5, .cells [cv1] ct1 false), (6, .cells [cv2] ct2 false)] 7 Try.func88 rfl Try.ntmps88 (by kernel_rfl) (by simp) rfl (bdH_c (by decide) (rcs_plain l) (bdH_b (by decide) rfl (bdH_b (by decide) rfl (bdH_b (by decide) rfl (bdH_c (by decide) (ics_plain ids) (bdH_b (by decide) (by simp [bdB, bdL, bdV_plain _ _ hcv1]) (bdH_b (by decide) (by simp [bdB, bdL, bdV_plain _ _ hcv2]) rfl))))))) (hall_of rfl) ?_
  refine vc_seq ?_
  refine vc_go (by kernel_rfl) fun K hK => hK _ _ _ ?_
  clear hK K
  refine vc_seq ?_
  refine vc_seq ?_
  refine vc_reg (by kernel_rfl) fun K hK => ?_
  refine run_n (z := false) 1 (fun K' hK' => hK' _ _ _ ?_) (by decide)
  clear hK' K'
  refine run_ro (fun _ => (0, 0)) (h47) ?_ rfl rfl rfl rfl ?_
  · intro x hx
    simp only [List.mem_singleton] at hx
    subst hx
    exact ⟨_, _, _, rfl, fun i v hv => by rw [Nat.zero_add]; exact hv⟩
  refine run_end (z := false) fun K' hK' => hK' _ _ _ (hK _ _ _ ?_)
  clear hK' K' hK K
  refine vc_seq ?_
  refine vc_go (by kernel_rfl) fun K hK => hK _ _ _ ?_
  clear hK K
  refine vc_cond (t := false) rfl (fun h => by cases h) (fun _ => ?_)
  refine vc_skip ?_
  refine vc_seq ?_
  refine vc_reg (by kernel_rfl) fun K hK => ?_
  refine run_n (z := false) 2 (fun K' hK' => hK' _ _ _ ?_) (by decide)
  clear hK' K'
  refine run_fc (fun k => (k, 0)) (p118 c (by omega)) (hasF ⟨sf_winp (rcs_plain l) rfl get_zero, trivial⟩ rfl) rfl rfl rfl rfl ⟨_, _, l.length, Nat.le_refl _, rfl, rfl⟩ ?_
  rintro _ _ ⟨c2, hc2, rfl, rfl⟩
  rw [renU_c (renB_p (spare_plain l _)) renU_nil]
  refine run_end (z := false) fun K' hK' => hK' _ _ _ (hK _ _ _ ?_)
  clear hK' K' hK K
  refine vc_seq ?_
  refine vc_seq ?_
  refine vc_reg (by kernel_rfl) fun K hK => ?_
  refine run_n (z := false) 1 (fun K' hK' => hK' _ _ _ ?_) (by decide)
  clear hK' K'
  refine run_fc (fun k => if k = 0 then (13, 0) else if k = 1 then (11, 0) else (k - 1, 0)) (h126 c2 hc2) (hasF ⟨sf_own rfl rfl, sf_ownp (spare_plain l _) rfl rfl, sf_winp rfl rfl get_zero, sf_win1 rfl rfl rfl, sf_win1 rfl rfl rfl, sf_winp (ics_plain ids) rfl get_zero, sf_win1 rfl rfl (renV_plain _ _ hcv1).symm, sf_win1 rfl rfl (renV_plain _ _ hcv2).symm, trivial⟩ rfl) rfl rfl rfl rfl ⟨_, _, rfl, rfl⟩ ?_
  rintro _ _ ⟨rfl, rfl⟩
  rw [renU_c rfl (renU_c (renB_p (plainL_append (rcs_plain l2) (zrow_plain rfl _))) renU_nil)]
  refine run_end (z := false) fun K' hK' => hK' _ _ _ (hK _ _ _ ?_)
  clear hK' K' hK K
  refine vc_seq ?_
  refine vc_go (by kernel_rfl) fun K hK => hK _ _ _ ?_
  clear hK K
  refine vc_cond (t := false) rfl (fun h => by cases h) (fun _ => ?_)
  refine vc_skip ?_
  refine vc_seq ?_
  refine vc_go (by kernel_rfl) fun K hK => hK _ _ _ ?_
  clear hK K
  refine vc_ret ⟨.inr rfl, ?_⟩
  exact res_of 11 _ _ ⟨c2, zrow (c2 - l.length) z5, zrow_plain rfl _, rfl, rfl⟩ (Nat.le_of_ble_eq_true rfl) rfl rfl ⟨sbu (plainL_append (rcs_plain _) (zrow_plain rfl _)) rfl, trivial⟩ (bdH_c (by decide) (plainL_append (rcs_plain _) (zrow_plain rfl _)) rfl) rfl (.inl (by simp))

theorem p88ac2 {l : List Rn} {ids : List Int} {g c mc : Nat} {f : Rn → Int × Rn} {cv1 cv2 : Value} {ct1 ct2 : Nat} {ok : Bool} (hcv1 : plain cv1 = true) (hcv2 : plain cv2 = true) (hl : l.length ≤ 900) (hm : ids.length ≤ 900) (hq : okq 0 l = false) : FC 88 [qv 0 l.length c, .func (.func 126) #[] #[.pointer (some ⟨1, 0, none⟩), .pointer (some ⟨2, 0, none⟩), .pointer (some ⟨3, 0, none⟩)]] 7 [(0, .cells (rws rc l) 0 false), (1, .cells [.bool ok] 4 false), (2, .cells [.slice (some ⟨4, 0, none⟩) ids.length mc] 61 false), (3, .cells [.func (.func g) #[] #[.pointer (some ⟨5, 0, none⟩), .pointer (some ⟨6, 0, none⟩)]] 152 false), (4, .cells (rws ic ids) 3 false), (5, .cells [cv1] ct1 false), (6, .cells [cv2] ct2 false)] (fun v u => v = .tuple #[qnil, .int .i64 200] ∧ u = []) := by
  have h47 := p47 l c (by omega)
  rw [chk1_no hq] at h47
  refine fc_of [(0, .cells (rws rc l) 0 false), (1, .cells [.bool ok] 4 false), (2, .cells [.slice (some ⟨4, 0, none⟩) ids.length mc] 61 false), (3, .cells [.func (.func g) #[] #[.pointer (some ⟨5, 0, none⟩), .pointer (some ⟨6, 0, none⟩)]] 152 false), (4, .cells (rws ic ids) 3 false), (5, .cells [cv1] ct1 false), (6, .cells [cv2] ct2 false)] 7 Try.func88 rfl Try.ntmps88 (by kernel_rfl) (by simp) rfl (bdH_c (by decide) (rcs_plain l) (bdH_b (by decide) rfl (bdH_b (by decide) rfl (bdH_b (by decide) rfl (bdH_c (by decide) (ics_plain ids) (bdH_b (by decide) (by simp [bdB, bdL, bdV_plain _ _ hcv1]) (bdH_b (by decide) (by simp [bdB, bdL, bdV_plain _ _ hcv2]) rfl))))))) (hall_of rfl) ?_
  refine vc_seq ?_
  refine vc_go (by kernel_rfl) fun K hK => hK _ _ _ ?_
  clear hK K
  refine vc_seq ?_
  refine vc_seq ?_
  refine vc_reg (by kernel_rfl) fun K hK => ?_
  refine run_n (z := false) 1 (fun K' hK' => hK' _ _ _ ?_) (by decide)
  clear hK' K'
  refine run_ro (fun _ => (0, 0)) (h47) ?_ rfl rfl rfl rfl ?_
  · intro x hx
    simp only [List.mem_singleton] at hx
    subst hx
    exact ⟨_, _, _, rfl, fun i v hv => by rw [Nat.zero_add]; exact hv⟩
  refine run_end (z := false) fun K' hK' => hK' _ _ _ (hK _ _ _ ?_)
  clear hK' K' hK K
  refine vc_seq ?_
  refine vc_go (by kernel_rfl) fun K hK => hK _ _ _ ?_
  clear hK K
  refine vc_cond (t := true) rfl (fun _ => ?_) (fun h => by cases h)
  refine vc_seq ?_
  refine vc_go (by kernel_rfl) fun K hK => hK _ _ _ ?_
  clear hK K
  refine vc_ret ⟨.inr rfl, ?_⟩
  exact res_plain ⟨rfl, rfl⟩ rfl rfl rfl

theorem p111e2 {l : List Rn} {ids : List Int} {g c mc : Nat} {f : Rn → Int × Rn} {cv1 cv2 : Value} {ct1 ct2 : Nat} {ok : Bool} (hcv1 : plain cv1 = true) (hcv2 : plain cv2 = true) {e : Int} (h88 : FC 88 [qv 0 l.length c, .func (.func 126) #[] #[.pointer (some ⟨1, 0, none⟩), .pointer (some ⟨2, 0, none⟩), .pointer (some ⟨3, 0, none⟩)]] 7 [(0, .cells (rws rc l) 0 false), (1, .cells [.bool ok] 4 false), (2, .cells [.slice (some ⟨4, 0, none⟩) ids.length mc] 61 false), (3, .cells [.func (.func g) #[] #[.pointer (some ⟨5, 0, none⟩), .pointer (some ⟨6, 0, none⟩)]] 152 false), (4, .cells (rws ic ids) 3 false), (5, .cells [cv1] ct1 false), (6, .cells [cv2] ct2 false)] (fun v u => v = .tuple #[qnil, .int .i64 e] ∧ u = [])) : FC 111 [qv 0 l.length c, .bool ok, .slice (some ⟨1, 0, none⟩) ids.length mc, .func (.func g) #[] #[.pointer (some ⟨2, 0, none⟩), .pointer (some ⟨3, 0, none⟩)]] 4 [(0, .cells (rws rc l) 0 false), (1, .cells (rws ic ids) 3 false), (2, .cells [cv1] ct1 false), (3, .cells [cv2] ct2 false)] (fun v u => v = .tuple #[qnil, .int .i64 e] ∧ u = []) := by
  refine fc_of [(0, .cells (rws rc l) 0 false), (1, .cells (rws ic ids) 3 false), (2, .cells [cv1] ct1 false), (3, .cells [cv2] ct2 false)] 4 Try.func111 rfl Try.ntmps111 (by kernel_rfl) (by simp) rfl (bdH_c (by decide) (rcs_plain l) (bdH_c (by decide) (ics_plain ids) (bdH_b (by decide) (by simp [bdB, bdL, bdV_plain _ _ hcv1]) (bdH_b (by decide) (by simp [bdB, bdL, bdV_plain _ _ hcv2]) rfl)))) (hall_of rfl) ?_
  refine vc_seq ?_
  refine vc_go (by kernel_rfl) fun K hK => hK _ _ _ ?_
  clear hK K
  refine vc_seq ?_
  refine vc_reg (by kernel_rfl) fun K hK => ?_
  refine run_n (z := false) 2 (fun K' hK' => hK' _ _ _ ?_) (by decide)
  clear hK' K'
  refine run_fc (fun k => if k = 0 then (0, 0) else if k = 1 then (5, 0) else if k = 2 then (6, 0) else if k = 3 then (7, 0) else (k - 3, 0)) h88 (hasF ⟨sf_winp (rcs_plain l) rfl get_zero, sf_winp rfl rfl get_zero, sf_win1 rfl rfl rfl, sf_win1 rfl rfl rfl, sf_winp (ics_plain ids) rfl get_zero, sf_win1 rfl rfl (renV_plain _ _ hcv1).symm, sf_win1 rfl rfl (renV_plain _ _ hcv2).symm, trivial⟩ rfl) rfl rfl rfl rfl ⟨_, _, rfl, rfl⟩ ?_
  rintro _ _ ⟨rfl, rfl⟩
  refine run_end (z := false) fun K' hK' => hK' _ _ _ (hK _ _ _ ?_)
  clear hK' K' hK K
  refine vc_ret ⟨.inr rfl, ?_⟩
  exact res_plain ⟨rfl, rfl⟩ rfl rfl rfl

theorem p111k2 {l : List Rn} {ids : List Int} {g c mc : Nat} {f : Rn → Int × Rn} {cv1 cv2 : Value} {ct1 ct2 : Nat} {ok : Bool} (hcv1 : plain cv1 = true) (hcv2 : plain cv2 = true) {l2 : List Rn} (h88 : FC 88 [qv 0 l.length c, .func (.func 126) #[] #[.pointer (some ⟨1, 0, none⟩), .pointer (some ⟨2, 0, none⟩), .pointer (some ⟨3, 0, none⟩)]] 7 [(0, .cells (rws rc l) 0 false), (1, .cells [.bool ok] 4 false), (2, .cells [.slice (some ⟨4, 0, none⟩) ids.length mc] 61 false), (3, .cells [.func (.func g) #[] #[.pointer (some ⟨5, 0, none⟩), .pointer (some ⟨6, 0, none⟩)]] 152 false), (4, .cells (rws ic ids) 3 false), (5, .cells [cv1] ct1 false), (6, .cells [cv2] ct2 false)] (fun v u => ∃ c2 sp2, plainL sp2 = true ∧ v = .tuple #[qv 7 l.length c2, .int .i64 0] ∧ u = [(7, .cells (rws rc l2 ++ sp2) 67 true)])) : FC 111 [qv 0 l.length c, .bool ok, .slice (some ⟨1, 0, none⟩) ids.length mc, .func (.func g) #[] #[.pointer (some ⟨2, 0, none⟩), .pointer (some ⟨3, 0, none⟩)]] 4 [(0, .cells (rws rc l) 0 false), (1, .cells (rws ic ids) 3 false), (2, .cells [cv1] ct1 false), (3, .cells [cv2] ct2 false)] (fun v u => ∃ c2 sp2, plainL sp2 = true ∧ v = .tuple #[qv 4 l.length c2, .int .i64 0] ∧ u = [(4, .cells (rws rc l2 ++ sp2) 67 true)]) := by
  refine fc_of [(0, .cells (rws rc l) 0 false), (1, .cells (rws ic ids) 3 false), (2, .cells [cv1] ct1 false), (3, .cells [cv2] ct2 false)] 4 Try.func111 rfl Try.ntmps111 (by kernel_rfl) (by simp) rfl (bdH_c (by decide) (rcs_plain l) (bdH_c (by decide) (ics_plain ids) (bdH_b (by decide) (by simp [bdB, bdL, bdV_plain _ _ hcv1]) (bdH_b (by decide) (by simp [bdB, bdL, bdV_plain _ _ hcv2]) rfl)))) (hall_of rfl) ?_
  refine vc_seq ?_
  refine vc_go (by kernel_rfl) fun K hK => hK _ _ _ ?_
  clear hK K
  refine vc_seq ?_
  refine vc_reg (by kernel_rfl) fun K hK => ?_
  refine run_n (z := false) 2 (fun K' hK' => hK' _ _ _ ?_) (by decide)
  clear hK' K'
  refine run_fc (fun k => if k = 0 then (0, 0) else if k = 1 then (5, 0) else if k = 2 then (6, 0) else if k = 3 then (7, 0) else (k - 3, 0)) h88 (hasF ⟨sf_winp (rcs_plain l) rfl get_zero, sf_winp rfl rfl get_zero, sf_win1 rfl rfl rfl, sf_win1 rfl rfl rfl, sf_winp (ics_plain ids) rfl get_zero, sf_win1 rfl rfl (renV_plain _ _ hcv1).symm, sf_win1 rfl rfl (renV_plain _ _ hcv2).symm, trivial⟩ rfl) rfl rfl rfl rfl ⟨_, _, 0, [], rfl, rfl, rfl⟩ ?_
  rintro _ _ ⟨c2, sp2, hp2, rfl, rfl⟩
  rw [renU_c (renB_p (plainL_append (rcs_plain _) hp2)) renU_nil]
  refine run_end (z := false) fun K' hK' => hK' _ _ _ (hK _ _ _ ?_)
  clear hK' K' hK K
  refine vc_ret ⟨.inr rfl, ?_⟩
  exact res_of 11 _ _ ⟨c2, sp2, hp2, rfl, rfl⟩ (Nat.le_of_ble_eq_true rfl) rfl rfl ⟨sbu (plainL_append (rcs_plain _) hp2) rfl, trivial⟩ (bdH_c (by decide) (plainL_append (rcs_plain _) hp2) rfl) rfl (.inl (by simp))
theorem p1112 {l : List Rn} {ids : List Int} {g c mc : Nat} {f : Rn → Int × Rn} {cv1 cv2 : Value} {ct1 ct2 : Nat} {ok : Bool} (hcv1 : plain cv1 = true) (hcv2 : plain cv2 = true) (hl : l.length ≤ 900) (hm : ids.length ≤ 900) (hdo : ok = true → ∀ (sp : List Value), plainL sp = true → ∀ (lc : List Rn) (i : Nat) (r : Rn), lc[i]? = some r → FC g [.pointer (some ⟨0, i * 5, none⟩), .pointer (some ⟨1, 0, none⟩), .pointer (some ⟨2, 0, none⟩)] 3 [(0, .cells (rws rc lc ++ sp) 67 true), (1, .cells [cv1] ct1 false), (2, .cells [cv2] ct2 false)] (fun v u => v = .int .i64 (f r).1 ∧ u = [(0, .cells (rws rc (lc.set i (f r).2) ++ sp) 67 true)])) (hlen : (alR ok f l ids).2.length = l.length) :
    ((okq 0 l = false ∨ (alR ok f l ids).1 ≠ 0) ∧ FC 111 [qv 0 l.length c, .bool ok, .slice (some ⟨1, 0, none⟩) ids.length mc, .func (.func g) #[] #[.pointer (some ⟨2, 0, none⟩), .pointer (some ⟨3, 0, none⟩)]] 4 [(0, .cells (rws rc l) 0 false), (1, .cells (rws ic ids) 3 false), (2, .cells [cv1] ct1 false), (3, .cells [cv2] ct2 false)] (fun v u => v = .tuple #[qnil, .int .i64 (if okq 0 l = true then (alR ok f l ids).1 else 200)] ∧ u = [])) ∨ (okq 0 l = true ∧ (alR ok f l ids).1 = 0 ∧ FC 111 [qv 0 l.length c, .bool ok, .slice (some ⟨1, 0, none⟩) ids.length mc, .func (.func g) #[] #[.pointer (some ⟨2, 0, none⟩), .pointer (some ⟨3, 0, none⟩)]] 4 [(0, .cells (rws rc l) 0 false), (1, .cells (rws ic ids) 3 false), (2, .cells [cv1] ct1 false), (3, .cells [cv2] ct2 false)] (fun v u => ∃ c2 sp2, plainL sp2 = true ∧ v = .tuple #[qv 4 l.length c2, .int .i64 0] ∧ u = [(4, .cells (rws rc (alR ok f l ids).2 ++ sp2) 67 true)])) := by
  cases hq : okq 0 l
  · exact .inl ⟨.inl rfl, p111e2 (mc := mc) (f := f) hcv1 hcv2 (p88ac2 (mc := mc) (f := f) hcv1 hcv2 hl hm hq)⟩
  by_cases he : (alR ok f l ids).1 = 0
  · exact .inr ⟨rfl, he, p111k2 (mc := mc) (f := f) hcv1 hcv2 (p88ak2 (mc := mc) (f := f) hcv1 hcv2 hl hm he hlen hq fun c9 h9 => p1262 (mc := mc) (f := f) hcv1 hcv2 hl hm h9 (zrow_plain rfl _) hdo)⟩
  · exact .inl ⟨.inr he, p111e2 (mc := mc) (f := f) hcv1 hcv2 (p88ae2 (mc := mc) (f := f) hcv1 hcv2 hl hm he hq fun c9 h9 => p1262 (mc := mc) (f := f) hcv1 hcv2 hl hm h9 (zrow_plain rfl _) hdo)⟩


theorem p70e1z {l : List Rn} {ids : List Int} {c mc d : Nat} (hd : d ≤ 10000000) {e : Int} (h111 : FC 111 [qv 0 l.length c, .bool true, .slice none 0 0, .func (.func 114) #[] #[.pointer (some ⟨2, 0, none⟩)]] 3 [(0, .cells (rws rc l) 0 false), (1, .cells (rws ic ids) 3 false), (2, .cells [.int .i64 (d : Nat)] 2 false)] (fun v u => v = .tuple #[qnil, .int .i64 e] ∧ u = [])) : FC 70 [qv 0 l.length c, .slice none 0 0, .int .i64 (d : Nat)] 2 [(0, .cells (rws rc l) 0 false), (1, .cells (rws ic ids) 3 false)] (fun v u => v = .tuple #[qnil, .int .i64 e] ∧ u = []) := by
  refine fc_of [(0, .cells (rws rc l) 0 false), (1, .cells (rws ic ids) 3 false)] 2 Try.func70 rfl Try.ntmps70 (by kernel_rfl) (by simp) rfl (bdH_c (by decide) (rcs_plain l) (bdH_c (by decide) (ics_plain ids) rfl)) (hall_of rfl) ?_
  refine vc_seq ?_
  refine vc_go (by kernel_rfl) fun K hK => hK _ _ _ ?_
  clear hK K
  refine vc_seq ?_
  refine vc_reg (by kernel_rfl) fun K hK => ?_
  refine run_n (z := false) 4 (fun K' hK' => hK' _ _ _ ?_) (by decide)
  clear hK' K'
  refine vgo_known 11 (b := true) (bb (by rw [decide_eq_true_eq]; omega)) ?_
  refine run_n (z := false) 3 (fun K' hK' => hK' _ _ _ ?_) (by decide)
  clear hK' K'
  refine vgo_known 14 (b := true) (bb (by rw [decide_eq_true_eq]; omega)) ?_
  refine run_n (z := false) 2 (fun K' hK' => hK' _ _ _ ?_) (by decide)
  clear hK' K'
  refine run_fc (fun k => if k = 2 then (3, 0) else (k, 0)) h111 (hasF ⟨sf_winp (rcs_plain l) rfl get_zero, sf_winp (ics_plain ids) rfl get_zero, sf_winp rfl rfl get_zero, trivial⟩ rfl) rfl rfl rfl rfl ⟨_, _, rfl, rfl⟩ ?_
  rintro _ _ ⟨rfl, rfl⟩
  refine run_end (z := false) fun K' hK' => hK' _ _ _ (hK _ _ _ ?_)
  clear hK' K' hK K
  refine vc_ret ⟨.inr rfl, ?_⟩
  exact res_plain ⟨rfl, rfl⟩ rfl rfl rfl

theorem p70k1z {l : List Rn} {ids : List Int} {c mc d : Nat} (hd : d ≤ 10000000) {l2 : List Rn} (h111 : FC 111 [qv 0 l.length c, .bool true, .slice none 0 0, .func (.func 114) #[] #[.pointer (some ⟨2, 0, none⟩)]] 3 [(0, .cells (rws rc l) 0 false), (1, .cells (rws ic ids) 3 false), (2, .cells [.int .i64 (d : Nat)] 2 false)] (fun v u => ∃ c2 sp2, plainL sp2 = true ∧ v = .tuple #[qv 3 l.length c2, .int .i64 0] ∧ u = [(3, .cells (rws rc l2 ++ sp2) 67 true)])) : FC 70 [qv 0 l.length c, .slice none 0 0, .int .i64 (d : Nat)] 2 [(0, .cells (rws rc l) 0 false), (1, .cells (rws ic ids) 3 false)] (fun v u => ∃ c2 sp2, plainL sp2 = true ∧ v = .tuple #[qv 2 l.length c2, .int .i64 0] ∧ u = [(2, .cells (rws rc l2 ++ sp2) 67 true)]) := by
  refine fc_of [(0, .cells (rws rc l) 0 false), (1, .cells (rws ic ids) 3 false)] 2 Try.func70 rfl Try.ntmps70 (by kernel_rfl) (by simp) rfl (bdH_c (by decide) (rcs_plain l) (bdH_c (by decide) (ics_plain ids) rfl)) (hall_of rfl) ?_
  refine vc_seq ?_
  refine vc_go (by kernel_rfl) fun K hK => hK _ _ _ ?_
  clear hK K
  refine vc_seq ?_
  refine vc_reg (by kernel_rfl) fun K hK => ?_
  refine run_n (z := false) 4 (fun K' hK' => hK' _ _ _ ?_) (by decide)
  clear hK' K'
  refine vgo_known 11 (b := true) (bb (by rw [decide_eq_true_eq]; omega)) ?_
  refine run_n (z := false) 3 (fun K' hK' => hK' _ _ _ ?_) (by decide)
  clear hK' K'
  refine vgo_known 14 (b := true) (bb (by rw [decide_eq_true_eq]; omega)) ?_
  refine run_n (z := false) 2 (fun K' hK' => hK' _ _ _ ?_) (by decide)
  clear hK' K'
  refine run_fc (fun k => if k = 2 then (3, 0) else (k, 0)) h111 (hasF ⟨sf_winp (rcs_plain l) rfl get_zero, sf_winp (ics_plain ids) rfl get_zero, sf_winp rfl rfl get_zero, trivial⟩ rfl) rfl rfl rfl rfl ⟨_, _, 0, [], rfl, rfl, rfl⟩ ?_
  rintro _ _ ⟨c2, sp2, hp2, rfl, rfl⟩
  rw [renU_c (renB_p (plainL_append (rcs_plain _) hp2)) renU_nil]
  refine run_end (z := false) fun K' hK' => hK' _ _ _ (hK _ _ _ ?_)
  clear hK' K' hK K
  refine vc_ret ⟨.inr rfl, ?_⟩
  exact res_of 14 _ _ ⟨c2, sp2, hp2, rfl, rfl⟩ (Nat.le_of_ble_eq_true rfl) rfl rfl ⟨sbu (plainL_append (rcs_plain _) hp2) rfl, trivial⟩ (bdH_c (by decide) (plainL_append (rcs_plain _) hp2) rfl) rfl (.inl (by simp))
theorem p701z {l : List Rn} {ids : List Int} {c mc d : Nat} (hd : d ≤ 10000000) (hl : l.length ≤ 900) (hm : ids.length ≤ 900) (hnil : ids = []) :
    ((okq 0 l = false ∨ (alR true (fRun d) l ids).1 ≠ 0) ∧ FC 70 [qv 0 l.length c, .slice none 0 0, .int .i64 (d : Nat)] 2 [(0, .cells (rws rc l) 0 false), (1, .cells (rws ic ids) 3 false)] (fun v u => v = .tuple #[qnil, .int .i64 (if okq 0 l = true then (alR true (fRun d) l ids).1 else 200)] ∧ u = [])) ∨ (okq 0 l = true ∧ (alR true (fRun d) l ids).1 = 0 ∧ FC 70 [qv 0 l.length c, .slice none 0 0, .int .i64 (d : Nat)] 2 [(0, .cells (rws rc l) 0 false), (1, .cells (rws ic ids) 3 false)] (fun v u => ∃ c2 sp2, plainL sp2 = true ∧ v = .tuple #[qv 2 l.length c2, .int .i64 0] ∧ u = [(2, .cells (rws rc (alR true (fRun d) l ids).2 ++ sp2) 67 true)])) := by
  rcases p1111z (ok := true) (f := fRun d) (g := 114) (cv1 := .int .i64 (d : Nat)) (ct1 := 2) (l := l) (ids := ids) (c := c) (mc := 0) rfl hl hm hnil (alR_len _ _ _ _) with ⟨h1, h2⟩ | ⟨h1, h2, h3⟩
  · exact .inl ⟨h1, p70e1z (mc := 0) hd h2⟩
  · exact .inr ⟨h1, h2, p70k1z (mc := 0) hd h3⟩


theorem p70e1 {l : List Rn} {ids : List Int} {c mc d : Nat} (hd : d ≤ 10000000) {e : Int} (h111 : FC 111 [qv 0 l.length c, .bool true, .slice (some ⟨1, 0, none⟩) ids.length mc, .func (.func 114) #[] #[.pointer (some ⟨2, 0, none⟩)]] 3 [(0, .cells (rws rc l) 0 false), (1, .cells (rws ic ids) 3 false), (2, .cells [.int .i64 (d : Nat)] 2 false)] (fun v u => v = .tuple #[qnil, .int .i64 e] ∧ u = [])) : FC 70 [qv 0 l.length c, .slice (some ⟨1, 0, none⟩) ids.length mc, .int .i64 (d : Nat)] 2 [(0, .cells (rws rc l) 0 false), (1, .cells (rws ic ids) 3 false)] (fun v u => v = .tuple #[qnil, .int .i64 e] ∧ u = []) := by
  refine fc_of [(0, .cells (rws rc l) 0 false), (1, .cells (rws ic ids) 3 false)] 2 Try.func70 rfl Try.ntmps70 (by kernel_rfl) (by simp) rfl (bdH_c (by decide) (rcs_plain l) (bdH_c (by decide) (ics_plain ids) rfl)) (hall_of rfl) ?_
  refine vc_seq ?_
  refine vc_go (by kernel_rfl) fun K hK => hK _ _ _ ?_
  clear hK K
  refine vc_seq ?_
  refine vc_reg (by kernel_rfl) fun K hK => ?_
  refine run_n (z := false) 4 (fun K' hK' => hK' _ _ _ ?_) (by decide)
  clear hK' K'
  refine vgo_known 11 (b := true) (bb (by rw [decide_eq_true_eq]; omega)) ?_
  refine run_n (z := false) 3 (fun K' hK' => hK' _ _ _ ?_) (by decide)
  clear hK' K'
  refine vgo_known 14 (b := true) (bb (by rw [decide_eq_true_eq]; omega)) ?_
  refine run_n (z := false) 2 (fun K' hK' => hK' _ _ _ ?_) (by decide)
  clear hK' K'
  refine run_fc (fun k => if k = 2 then (3, 0) else (k, 0)) h111 (hasF ⟨sf_winp (rcs_plain l) rfl get_zero, sf_winp (ics_plain ids) rfl get_zero, sf_winp rfl rfl get_zero, trivial⟩ rfl) rfl rfl rfl rfl ⟨_, _, rfl, rfl⟩ ?_
  rintro _ _ ⟨rfl, rfl⟩
  refine run_end (z := false) fun K' hK' => hK' _ _ _ (hK _ _ _ ?_)
  clear hK' K' hK K
  refine vc_ret ⟨.inr rfl, ?_⟩
  exact res_plain ⟨rfl, rfl⟩ rfl rfl rfl

theorem p70k1 {l : List Rn} {ids : List Int} {c mc d : Nat} (hd : d ≤ 10000000) {l2 : List Rn} (h111 : FC 111 [qv 0 l.length c, .bool true, .slice (some ⟨1, 0, none⟩) ids.length mc, .func (.func 114) #[] #[.pointer (some ⟨2, 0, none⟩)]] 3 [(0, .cells (rws rc l) 0 false), (1, .cells (rws ic ids) 3 false), (2, .cells [.int .i64 (d : Nat)] 2 false)] (fun v u => ∃ c2 sp2, plainL sp2 = true ∧ v = .tuple #[qv 3 l.length c2, .int .i64 0] ∧ u = [(3, .cells (rws rc l2 ++ sp2) 67 true)])) : FC 70 [qv 0 l.length c, .slice (some ⟨1, 0, none⟩) ids.length mc, .int .i64 (d : Nat)] 2 [(0, .cells (rws rc l) 0 false), (1, .cells (rws ic ids) 3 false)] (fun v u => ∃ c2 sp2, plainL sp2 = true ∧ v = .tuple #[qv 2 l.length c2, .int .i64 0] ∧ u = [(2, .cells (rws rc l2 ++ sp2) 67 true)]) := by
  refine fc_of [(0, .cells (rws rc l) 0 false), (1, .cells (rws ic ids) 3 false)] 2 Try.func70 rfl Try.ntmps70 (by kernel_rfl) (by simp) rfl (bdH_c (by decide) (rcs_plain l) (bdH_c (by decide) (ics_plain ids) rfl)) (hall_of rfl) ?_
  refine vc_seq ?_
  refine vc_go (by kernel_rfl) fun K hK => hK _ _ _ ?_
  clear hK K
  refine vc_seq ?_
  refine vc_reg (by kernel_rfl) fun K hK => ?_
  refine run_n (z := false) 4 (fun K' hK' => hK' _ _ _ ?_) (by decide)
  clear hK' K'
  refine vgo_known 11 (b := true) (bb (by rw [decide_eq_true_eq]; omega)) ?_
  refine run_n (z := false) 3 (fun K' hK' => hK' _ _ _ ?_) (by decide)
  clear hK' K'
  refine vgo_known 14 (b := true) (bb (by rw [decide_eq_true_eq]; omega)) ?_
  refine run_n (z := false) 2 (fun K' hK' => hK' _ _ _ ?_) (by decide)
  clear hK' K'
  refine run_fc (fun k => if k = 2 then (3, 0) else (k, 0)) h111 (hasF ⟨sf_winp (rcs_plain l) rfl get_zero, sf_winp (ics_plain ids) rfl get_zero, sf_winp rfl rfl get_zero, trivial⟩ rfl) rfl rfl rfl rfl ⟨_, _, 0, [], rfl, rfl, rfl⟩ ?_
  rintro _ _ ⟨c2, sp2, hp2, rfl, rfl⟩
  rw [renU_c (renB_p (plainL_append (rcs_plain _) hp2)) renU_nil]
  refine run_end (z := false) fun K' hK' => hK' _ _ _ (hK _ _ _ ?_)
  clear hK' K' hK K
  refine vc_ret ⟨.inr rfl, ?_⟩
  exact res_of 14 _ _ ⟨c2, sp2, hp2, rfl, rfl⟩ (Nat.le_of_ble_eq_true rfl) rfl rfl ⟨sbu (plainL_append (rcs_plain _) hp2) rfl, trivial⟩ (bdH_c (by decide) (plainL_append (rcs_plain _) hp2) rfl) rfl (.inl (by simp))
theorem p701 {l : List Rn} {ids : List Int} {c mc d : Nat} (hd : d ≤ 10000000) (hl : l.length ≤ 900) (hm : ids.length ≤ 900) :
    ((okq 0 l = false ∨ (alR true (fRun d) l ids).1 ≠ 0) ∧ FC 70 [qv 0 l.length c, .slice (some ⟨1, 0, none⟩) ids.length mc, .int .i64 (d : Nat)] 2 [(0, .cells (rws rc l) 0 false), (1, .cells (rws ic ids) 3 false)] (fun v u => v = .tuple #[qnil, .int .i64 (if okq 0 l = true then (alR true (fRun d) l ids).1 else 200)] ∧ u = [])) ∨ (okq 0 l = true ∧ (alR true (fRun d) l ids).1 = 0 ∧ FC 70 [qv 0 l.length c, .slice (some ⟨1, 0, none⟩) ids.length mc, .int .i64 (d : Nat)] 2 [(0, .cells (rws rc l) 0 false), (1, .cells (rws ic ids) 3 false)] (fun v u => ∃ c2 sp2, plainL sp2 = true ∧ v = .tuple #[qv 2 l.length c2, .int .i64 0] ∧ u = [(2, .cells (rws rc (alR true (fRun d) l ids).2 ++ sp2) 67 true)])) := by
  rcases p1111 (ok := true) (f := fRun d) (g := 114) (cv1 := .int .i64 (d : Nat)) (ct1 := 2) (l := l) (ids := ids) (c := c) (mc := mc) rfl hl hm (fun _ sp hsp lc i r hr => p114 hr hsp hd) (alR_len _ _ _ _) with ⟨h1, h2⟩ | ⟨h1, h2, h3⟩
  · exact .inl ⟨h1, p70e1 hd h2⟩
  · exact .inr ⟨h1, h2, p70k1 hd h3⟩

end Go.Proofs.Ytdfkcijholopoaa.Vm
namespace Go.Proofs.Ytdfkcijholopoaa.Vm
open Go Go.RowKit
set_option maxRecDepth 10000
set_option linter.unusedSimpArgs false
set_option linter.unusedVariables false


def wa1 : Rn := ⟨1, 1, 100, 10⟩
def wa2 : Rn := ⟨2, 2, 300, 20⟩
def wa3 : Rn := ⟨3, 1, 0, 30⟩
theorem wa_E : joinE [wa1, wa2] wa3 90 = 0 := by decide
theorem wa_Q : joinQ [wa1, wa2] wa3 90 = [wa1, wa2, ⟨3, 1, 360, 30⟩] := by decide
theorem wa_R : alR true (fRun 10) [wa1, wa2] [2] = (0, [wa1, ⟨2, 2, 320, 20⟩]) := by decide
theorem wa_q : okq 0 [wa1, wa2] = true := by decide
theorem wa_G : getQ [wa1, wa2, ⟨3, 1, 360, 30⟩] 3 = some ⟨3, 1, 360, 30⟩ := by decide
theorem wa46 : FC 46 [qv 0 2 2, rv wa3, u64 90] 1 [(0, .cells (rws rc [wa1, wa2]) 0 false)] (fun v u => ∃ c2 sp2, plainL sp2 = true ∧ v = .tuple #[qv 1 3 c2, .int .i64 0] ∧ u = [(1, .cells (rws rc [wa1, wa2, ⟨3, 1, 360, 30⟩] ++ sp2) 67 true)]) := by
  rcases p46 [wa1, wa2] wa3 90 2 (by decide) (by decide) with ⟨h, _⟩ | ⟨_, _, _, _, _, h⟩
  · exact absurd wa_E h
  · rw [wa_Q] at h
    exact h
theorem wa70 : FC 70 [qv 0 2 2, .slice (some ⟨1, 0, none⟩) 1 1, .int .i64 10] 2 [(0, .cells (rws rc [wa1, wa2]) 0 false), (1, .cells (rws ic [2]) 3 false)] (fun v u => ∃ c2 sp2, plainL sp2 = true ∧ v = .tuple #[qv 2 2 c2, .int .i64 0] ∧ u = [(2, .cells (rws rc [wa1, ⟨2, 2, 320, 20⟩] ++ sp2) 67 true)]) := by
  rcases p701 (l := [wa1, wa2]) (ids := [2]) (c := 2) (mc := 1) (d := 10) (by decide) (by decide) (by decide) with ⟨h, _⟩ | ⟨_, _, h⟩
  · rw [wa_q, wa_R] at h
    rcases h with h | h
    · cases h
    · exact absurd rfl h
  · rw [wa_R] at h
    exact h


theorem p38 : Pure 38 [] (.bool true) := by
  have h43 := p43 [wa1, wa2, ⟨3, 1, 360, 30⟩] 
  have g43 := fun c => h43 c 3 (by decide)
  simp only [wa_G] at g43
  refine pure_of Try.func38 rfl Try.ntmps38 (by kernel_rfl) rfl (by simp) rfl ?_
  refine vc_seq ?_
  refine vc_go (by kernel_rfl) fun K hK => hK _ _ _ ?_
  clear hK K
  refine vc_seq ?_
  refine vc_reg (by kernel_rfl) fun K hK => ?_
  refine run_call (p85 (n := 100) (w := 10) (by decide)) rfl rfl rfl rfl ?_
  refine run_n (z := false) 1 (fun K' hK' => hK' _ _ _ ?_) (by decide)
  clear hK' K'
  refine run_call (p85 (n := 300) (w := 20) (by decide)) rfl rfl rfl rfl ?_
  refine run_end (z := false) fun K' hK' => hK' _ _ _ (hK _ _ _ ?_)
  clear hK' K' hK K
  refine vc_seq ?_
  refine vc_regD [(0, 1), (0, 7), (1, 7), (3, 7)] (by kernel_rfl) (by kernel_rfl) fun K hK => ?_
  refine runD_n (z := false) 1 (fun K' hK' => hK' _ _ _ _ ?_) (by decide)
  clear hK' K'
  refine runD_call (p85 (n := 0) (w := 30) (by decide)) rfl rfl rfl rfl ?_
  refine runD_n (z := false) 1 (fun K' hK' => hK' _ _ _ _ ?_) (by decide)
  clear hK' K'
  refine runD_fc (fun _ => (4, 0)) wa46 (hasF ⟨sf_winp rfl rfl get_zero, trivial⟩ rfl) rfl rfl rfl rfl ⟨_, _, 0, [], rfl, rfl, rfl⟩ (by rintro _ _ ⟨_, _, _, rfl, rfl⟩; rfl) ?_
  rintro _ _ ⟨c2, sp2, hp2, rfl, rfl⟩
  rw [renU_c (renB_p (plainL_append (rcs_plain _) hp2)) renU_nil]
  refine runD_end (z := false) fun K' hK' => hK' _ _ _ _ (hK _ _ _ ?_)
  clear hK' K' hK K
  refine vc_seq ?_
  refine vc_reg (by kernel_rfl) fun K hK => ?_
  refine run_n (z := false) 2 (fun K' hK' => hK' _ _ _ ?_) (by decide)
  clear hK' K'
  refine run_fc (fun k => if k = 0 then (4, 0) else (16, 0)) wa70 (hasF ⟨sf_winp rfl rfl get_zero, sf_winp rfl rfl get_zero, trivial⟩ rfl) rfl rfl rfl rfl ⟨_, _, 0, [], rfl, rfl, rfl⟩ ?_
  rintro _ _ ⟨c3, sp3, hp3, rfl, rfl⟩
  rw [renU_c (renB_p (plainL_append (rcs_plain _) hp3)) renU_nil]
  refine run_end (z := false) fun K' hK' => hK' _ _ _ (hK _ _ _ ?_)
  clear hK' K' hK K
  refine vc_seq ?_
  refine vc_reg (by kernel_rfl) fun K hK => ?_
  refine run_n (z := false) 1 (fun K' hK' => hK' _ _ _ ?_) (by decide)
  clear hK' K'
  refine run_ro (fun _ => (10, 0)) (g43 c2) ?_ rfl rfl rfl rfl ?_
  · intro x hx
    simp only [List.mem_singleton] at hx
    subst hx
    exact ⟨_, _, _, rfl, get_zero_app⟩
  refine run_end (z := false) fun K' hK' => hK' _ _ _ (hK _ _ _ ?_)
  clear hK' K' hK K
  refine vc_seq ?_
  refine vc_regD [(11, 12), (23, 27), (26, 27)] (by kernel_rfl) (by kernel_rfl) fun K hK => ?_
  refine runD_n (z := false) 3 (fun K' hK' => hK' _ _ _ _ ?_) (by decide)
  clear hK' K'
  refine W_known 34 (b := true) (rfl) ?_
  refine runD_n (z := false) 4 (fun K' hK' => hK' _ _ _ _ ?_) (by decide)
  clear hK' K'
  refine W_known 38 (b := true) (rfl) ?_
  refine runD_n (z := false) 3 (fun K' hK' => hK' _ _ _ _ ?_) (by decide)
  clear hK' K'
  refine W_known 41 (b := true) (rfl) ?_
  refine runD_n (z := false) 2 (fun K' hK' => hK' _ _ _ _ ?_) (by decide)
  clear hK' K'
  refine runD_call (p85 (n := 360) (w := 30) (by decide)) rfl rfl rfl rfl ?_
  refine runD_n (z := false) 3 (fun K' hK' => hK' _ _ _ _ ?_) (by decide)
  clear hK' K'
  refine W_known 47 (b := true) (rfl) ?_
  refine runD_n (z := false) 6 (fun K' hK' => hK' _ _ _ _ ?_) (by decide)
  clear hK' K'
  refine W_known 53 (b := true) (rfl) ?_
  refine runD_n (z := false) 4 (fun K' hK' => hK' _ _ _ _ ?_) (by decide)
  clear hK' K'
  refine runD_rd (vex_ldr rc_len (j := 2) (i := 1) (l := [wa1, ⟨2, 2, 320, 20⟩]) (d := frc 320 20) rfl rfl rfl rfl rfl rfl (by decide) rfl) rfl rfl ?_
  refine runD_call (p85 (n := 320) (w := 20) (by decide)) rfl rfl rfl rfl ?_
  refine runD_end (z := false) fun K' hK' => hK' _ _ _ _ (hK _ _ _ ?_)
  clear hK' K' hK K
  exact vc_ret ⟨.inr rfl, rfl⟩
end Go.Proofs.Ytdfkcijholopoaa.Vm
namespace Go.Proofs.Ytdfkcijholopoaa.Vm
open Go Go.RowKit
set_option linter.unusedSimpArgs false

theorem okq_iff {l : List Rn} : ∀ {last : Int}, okq last l = true ↔ (∀ r ∈ l, okR r = true) ∧ (∀ r ∈ l, last < r.id) ∧ l.Pairwise (fun a b => a.id < b.id) := by
  induction l with
  | nil => intro last; simp [okq]
  | cons a l ih =>
    intro last
    simp only [okq, Bool.and_eq_true, decide_eq_true_eq, List.pairwise_cons, List.mem_cons, forall_eq_or_imp, ih (last := a.id)]
    constructor
    · rintro ⟨h1, h2, h3, h4, h5⟩
      exact ⟨⟨h1, h3⟩, ⟨h2, fun r hr => by have := h4 r hr; omega⟩, h4, h5⟩
    · rintro ⟨⟨h1, h2⟩, ⟨h3, _⟩, h5, h6⟩
      exact ⟨h1, h3, h2, h5, h6⟩
theorem okR_id {r : Rn} (h : okR r = true) : 1 ≤ r.id ∧ r.id ≤ 16 := by
  simp only [okR, Bool.and_eq_true] at h
  exact of_decide_eq_true h.1
theorem okR_each {r : Rn} (h : okR r = true) : 1 ≤ r.each ∧ r.each ≤ 8 := by
  simp only [okR, Bool.and_eq_true] at h
  exact of_decide_eq_true h.2.1
theorem okq0 {l : List Rn} : okq 0 l = true ↔ (∀ r ∈ l, okR r = true) ∧ l.Pairwise (fun a b => a.id < b.id) := by
  rw [okq_iff]
  constructor
  · rintro ⟨h1, _, h3⟩; exact ⟨h1, h3⟩
  · rintro ⟨h1, h3⟩; exact ⟨h1, fun r hr => by have := okR_id (h1 r hr); omega, h3⟩
theorem pw_get {l : List Rn} (h : l.Pairwise (fun a b => a.id < b.id)) {i j : Nat} {a b : Rn} (hij : i < j) (ha : l[i]? = some a) (hb : l[j]? = some b) : a.id < b.id := by
  obtain ⟨hi, rfl⟩ := List.getElem?_eq_some_iff.1 ha
  obtain ⟨hj, rfl⟩ := List.getElem?_eq_some_iff.1 hb
  exact List.pairwise_iff_getElem.1 h i j hi hj hij
def i64r (t : Int) : Prop := -2 ^ 63 ≤ t ∧ t < 2 ^ 63
theorem cmpT_zero {r : Rn} {t : Int} (hr : okR r = true) (ht : i64r t) : cmpT r t = 0 ↔ r.id = t := by
  have := okR_id hr
  unfold i64r at ht
  unfold cmpT
  rw [IntKind.wrap_i64]
  omega
theorem cmpT_lt {r : Rn} {t : Int} (hr : okR r = true) (ht : 1 ≤ t ∧ t ≤ 16) : cmpT r t < 0 ↔ r.id < t := by
  have := okR_id hr
  unfold cmpT
  rw [wrapI (by omega) (by omega)]
  omega
/-- Found: it is there. -/
theorem atB_id {l : List Rn} {t : Int} (hq : okq 0 l = true) (ht : i64r t) (h : atB l t = true) : ∃ a, l[atI l t]? = some a ∧ a.id = t ∧ atI l t < l.length := by
  obtain ⟨a, ha, hi⟩ := atB_get h
  rw [atB_some ha, beq_iff_eq, cmpT_zero ((okq0.1 hq).1 a (List.mem_of_getElem? ha)) ht] at h
  exact ⟨a, ha, h, hi⟩
theorem atI_spec {l : List Rn} {t : Int} (hq : okq 0 l = true) (ht : 1 ≤ t ∧ t ≤ 16) : atI l t ≤ l.length ∧ (∀ k a, k < atI l t → l[k]? = some a → a.id < t) ∧ (∀ k a, atI l t ≤ k → l[k]? = some a → t ≤ a.id) := by
  obtain ⟨h1, h2⟩ := okq0.1 hq
  obtain ⟨_, s2, s3, s4⟩ := bsr_spec (ltT l t) l.length 0 l.length (Nat.zero_le _) (Nat.le_refl _)
  have s2' : atI l t ≤ l.length := s2
  have s3' : atI l t = 0 ∨ ltT l t (atI l t - 1) = true := s3
  have s4' : atI l t = l.length ∨ ltT l t (atI l t) = false := s4
  refine ⟨s2', fun k a hk ha => ?_, fun k a hk ha => ?_⟩
  · rcases s3' with s | s
    · omega
    · obtain ⟨b, hb⟩ : ∃ b, l[atI l t - 1]? = some b := ⟨l[atI l t - 1]'(by omega), List.getElem?_eq_getElem (by omega)⟩
      rw [ltT_of hb rfl, decide_eq_true_eq, cmpT_lt (h1 b (List.mem_of_getElem? hb)) ht] at s
      by_cases e : k = atI l t - 1
      · subst e; rw [ha] at hb; cases hb; exact s
      · have := pw_get h2 (show k < atI l t - 1 by omega) ha hb
        omega
  · rcases s4' with s | s
    · have := (List.getElem?_eq_some_iff.1 ha).1
      omega
    · have hlt : atI l t < l.length := by
        have := (List.getElem?_eq_some_iff.1 ha).1
        omega
      obtain ⟨b, hb⟩ : ∃ b, l[atI l t]? = some b := ⟨l[atI l t], List.getElem?_eq_getElem hlt⟩
      rw [ltT_of hb rfl, decide_eq_false_iff_not, cmpT_lt (h1 b (List.mem_of_getElem? hb)) ht] at s
      by_cases e : k = atI l t
      · subst e; rw [ha] at hb; cases hb; omega
      · have := pw_get h2 (show atI l t < k by omega) hb ha
        omega
/-- What is there is found. -/
theorem at_of {l : List Rn} {k : Nat} {a : Rn} (hq : okq 0 l = true) (ha : l[k]? = some a) : atI l a.id = k ∧ atB l a.id = true ∧ getQ l a.id = some a := by
  obtain ⟨h1, h2⟩ := okq0.1 hq
  have hid := okR_id (h1 a (List.mem_of_getElem? ha))
  obtain ⟨s1, s2, s3⟩ := atI_spec hq hid
  have hk : k < l.length := (List.getElem?_eq_some_iff.1 ha).1
  have e : atI l a.id = k := by
    rcases Nat.lt_trichotomy (atI l a.id) k with h | h | h
    · obtain ⟨b, hb⟩ : ∃ b, l[atI l a.id]? = some b := ⟨l[atI l a.id]'(by omega), List.getElem?_eq_getElem (by omega)⟩
      have h3 := s3 _ b (Nat.le_refl _) hb
      have h4 := pw_get h2 h hb ha
      omega
    · exact h
    · have := s2 k a h ha
      omega
  have hb : atB l a.id = true := by
    rw [atB_some (a := a) (by rw [e]; exact ha), beq_iff_eq, cmpT_zero (h1 a (List.mem_of_getElem? ha)) ⟨by omega, by omega⟩]
  exact ⟨e, hb, getQ_some hq hb (by rw [e]; exact ha)⟩
theorem atB_none_of {l : List Rn} {t : Int} (hq : okq 0 l = true) (ht : i64r t) (h : ∀ r ∈ l, r.id ≠ t) : atB l t = false := by
  cases hb : atB l t with
  | false => rfl
  | true =>
    obtain ⟨a, ha, he, _⟩ := atB_id hq ht hb
    exact absurd he (h a (List.mem_of_getElem? ha))
theorem getQ_id {l : List Rn} {t : Int} {a : Rn} (ht : i64r t) (h : getQ l t = some a) : okq 0 l = true ∧ atB l t = true ∧ l[atI l t]? = some a ∧ a.id = t := by
  unfold getQ at h
  split at h
  · rename_i hq
    split at h
    · rename_i hb
      obtain ⟨b, hb1, hb2, _⟩ := atB_id hq ht hb
      rw [hb1] at h
      cases h
      exact ⟨hq, hb, hb1, hb2⟩
    · cases h
  · cases h
/-! ### put in, taken out -/
theorem mem_take_get {l : List Rn} {i : Nat} {r : Rn} (h : r ∈ l.take i) : ∃ k, k < i ∧ l[k]? = some r := by
  obtain ⟨k, hk⟩ := List.getElem?_of_mem h
  rw [List.getElem?_take] at hk
  split at hk
  · rename_i hlt; exact ⟨k, hlt, hk⟩
  · cases hk
theorem mem_drop_get {l : List Rn} {i : Nat} {r : Rn} (h : r ∈ l.drop i) : ∃ k, i ≤ k ∧ l[k]? = some r := by
  obtain ⟨k, hk⟩ := List.getElem?_of_mem h
  rw [List.getElem?_drop] at hk
  exact ⟨i + k, by omega, hk⟩
theorem ins_ok {l : List Rn} {r : Rn} (hq : okq 0 l = true) (hr : okR r = true) (hb : atB l r.id = false) : okq 0 (insQ l (atI l r.id) r) = true := by
  obtain ⟨h1, h2⟩ := okq0.1 hq
  have hid := okR_id hr
  obtain ⟨s1, s2, s3⟩ := atI_spec hq hid
  rw [okq0]
  refine ⟨fun x hx => ?_, ?_⟩
  · rcases List.mem_append.1 hx with hx | hx
    · exact h1 x (List.mem_of_mem_take hx)
    · rcases List.mem_cons.1 hx with rfl | hx
      · exact hr
      · exact h1 x (List.mem_of_mem_drop hx)
  · have low : ∀ x ∈ l.take (atI l r.id), x.id < r.id := fun x hx => by
      obtain ⟨k, hk, hx⟩ := mem_take_get hx
      exact s2 k x hk hx
    have high : ∀ x ∈ l.drop (atI l r.id), r.id < x.id := fun x hx => by
      obtain ⟨k, hk, hx⟩ := mem_drop_get hx
      have h4 := s3 k x hk hx
      by_cases e : x.id = r.id
      · have := (at_of hq hx).2.1
        rw [e, hb] at this
        cases this
      · omega
    rw [insQ, List.pairwise_append]
    refine ⟨h2.sublist (List.take_sublist _ _), List.pairwise_cons.2 ⟨high, h2.sublist (List.drop_sublist _ _)⟩, fun x hx y hy => ?_⟩
    rcases List.mem_cons.1 hy with rfl | hy
    · exact low x hx
    · have := low x hx; have := high y hy; omega
theorem ins_get {l : List Rn} {r : Rn} {i : Nat} (hi : i ≤ l.length) : (insQ l i r)[i]? = some r := by
  rw [insQ, List.getElem?_append_right (by rw [List.length_take]; omega), List.length_take, Nat.min_eq_left hi, Nat.sub_self]
  rfl
theorem ins_len {l : List Rn} {r : Rn} {i : Nat} (hi : i ≤ l.length) : (insQ l i r).length = l.length + 1 := by
  rw [insQ, List.length_append, List.length_cons, List.length_take, List.length_drop]
  omega
theorem del_ins {l : List Rn} {r : Rn} {i : Nat} (hi : i ≤ l.length) : delQ (insQ l i r) i = l := by
  have hl : (l.take i).length = i := by rw [List.length_take, Nat.min_eq_left hi]
  rw [delQ, insQ, List.take_left' hl, show i + 1 = (l.take i).length + 1 by rw [hl], ← List.drop_drop, List.drop_left]
  exact List.take_append_drop i l
theorem del_ok {l : List Rn} {i : Nat} (hq : okq 0 l = true) : okq 0 (delQ l i) = true := by
  obtain ⟨h1, h2⟩ := okq0.1 hq
  have hs : (delQ l i).Sublist l := by
    have h3 : (l.take i ++ l.drop (i + 1)).Sublist (l.take i ++ l.drop i) := (List.Sublist.refl _).append (by
      rw [← List.drop_drop]
      exact List.drop_sublist _ _)
    rwa [List.take_append_drop] at h3
  rw [okq0]
  exact ⟨fun x hx => h1 x (hs.subset hx), h2.sublist hs⟩
theorem del_none {l : List Rn} {i : Nat} {a : Rn} (hq : okq 0 l = true) (ha : l[i]? = some a) : atB (delQ l i) a.id = false := by
  obtain ⟨h1, h2⟩ := okq0.1 hq
  have hid := okR_id (h1 a (List.mem_of_getElem? ha))
  refine atB_none_of (del_ok hq) ⟨by omega, by omega⟩ fun r hr => ?_
  rcases List.mem_append.1 hr with hr | hr
  · obtain ⟨k, hk, hr⟩ := mem_take_get hr
    have := pw_get h2 hk hr ha
    omega
  · obtain ⟨k, hk, hr⟩ := mem_drop_get hr
    have := pw_get h2 (show i < k by omega) ha hr
    omega
/-! ### what Join does -/
theorem okR_n {r : Rn} {n : Nat} (hr : okR r = true) (hn : n < 2 ^ 100) : okR { r with n := n } = true := by
  simp only [okR, Bool.and_eq_true] at hr ⊢
  exact ⟨hr.1, hr.2.1, rt_mk (rt_wt hr.2.2) hn⟩
theorem join_fits {l : List Rn} {r : Rn} {b : Nat} (h : joinE l r b = 0) : okq 0 l = true ∧ okR r = true ∧ atB l r.id = false ∧ b ≤ 10000000 ∧ ∀ a v, topS none l = some (a, v) → sc a r.w v true < 2 ^ 100 := by
  unfold joinE at h
  split at h
  · split at h <;> cases h
  split at h
  · cases h
  split at h
  · cases h
  split at h
  · cases h
  rename_i h1 h2 h3 h4
  refine ⟨by simpa using h2, by simpa using h3, by simpa using h4, by omega, fun a v ht => ?_⟩
  rw [ht] at h
  simp only at h
  split at h
  · assumption
  · cases h
theorem joinT_lt {l : List Rn} {r : Rn} {b : Nat} (h : joinE l r b = 0) : joinT l r b < 2 ^ 100 := by
  obtain ⟨_, h2, _, _, h5⟩ := join_fits h
  unfold joinT
  split
  · exact (rt_w (okR_rt h2)).2.2
  · rename_i a v ht
    have := h5 a v ht
    exact Nat.lt_of_le_of_lt (Nat.min_le_right _ _) this
theorem joinQ_ok {l : List Rn} {r : Rn} {b : Nat} (h : joinE l r b = 0) : okq 0 (joinQ l r b) = true ∧ (joinQ l r b).length = l.length + 1 ∧ (joinQ l r b)[atI l r.id]? = some { r with n := joinT l r b } ∧ delQ (joinQ l r b) (atI l r.id) = l ∧ atI (joinQ l r b) r.id = atI l r.id ∧ getQ (joinQ l r b) r.id = some { r with n := joinT l r b } ∧ atB (joinQ l r b) r.id = true := by
  obtain ⟨h1, h2, h3, _, _⟩ := join_fits h
  have hi : atI l r.id ≤ l.length := (atI_spec h1 (okR_id h2)).1
  have hok : okq 0 (joinQ l r b) = true := ins_ok (r := { r with n := joinT l r b }) h1 (okR_n h2 (joinT_lt h)) h3
  have hg : (joinQ l r b)[atI l r.id]? = some { r with n := joinT l r b } := ins_get hi
  obtain ⟨e1, e2, e3⟩ := at_of hok hg
  exact ⟨hok, ins_len hi, hg, del_ins hi, e1, e3, e2⟩
/-! ### near the top -/
theorem sc_ge' {a m d : Nat} (hd : 0 < d) : a * m ≤ sc a m d true * d := by
  have h2 := Nat.div_add_mod (a * m) d
  have h3 := Nat.mod_lt (a * m) hd
  rw [Nat.mul_comm d] at h2
  unfold sc
  rw [Nat.add_mul]
  generalize a * m / d * d = q at *
  split
  · omega
  · rename_i hr
    have : ¬ 0 < a * m % d := fun h => hr ⟨rfl, h⟩
    omega
theorem sc_pred' {a m d : Nat} (hd : 0 < d) (h : sc a m d true ≠ 0) : (sc a m d true - 1) * d < a * m := by
  have h2 := Nat.div_add_mod (a * m) d
  have h3 := Nat.mod_lt (a * m) hd
  rw [Nat.mul_comm d] at h2
  unfold sc at h ⊢
  by_cases hr : 0 < a * m % d
  · rw [if_pos ⟨rfl, hr⟩, Nat.add_sub_cancel]
    omega
  · rw [if_neg (fun h => hr h.2)] at h ⊢
    rw [Nat.add_zero] at h ⊢
    rw [Nat.sub_mul, Nat.one_mul]
    have : d ≤ a * m / d * d := Nat.le_mul_of_pos_left d (Nat.pos_of_ne_zero h)
    omega
theorem low_le (a v w k : Nat) : lowN a v w k ≤ sc a w v true := by
  have := far_le a v w
  unfold lowN
  omega
theorem joinN_bd (a v w k n : Nat) : farN a v w ≤ joinN a v w k n ∧ joinN a v w k n ≤ sc a w v true := by
  have := far_le a v w
  unfold joinN lowN
  omega
theorem join_near {a v w k n : Nat} (hv : 0 < v) : bh (joinN a v w k n) w a v SLK = false ∧ (joinN a v w k n = 0 ∨ (joinN a v w k n - 1) * v < a * w) := by
  obtain ⟨h1, h2⟩ := joinN_bd a v w k n
  have h3 : (a - SLK * v) * w ≤ farN a v w * v := sc_ge' hv
  refine ⟨?_, ?_⟩
  · rw [bh, decide_eq_false_iff_not]
    have := Nat.mul_le_mul_right v h1
    omega
  · by_cases h0 : joinN a v w k n = 0
    · exact .inl h0
    · right
      have hA : sc a w v true ≠ 0 := by omega
      have h4 := sc_pred' hv hA
      have := Nat.mul_le_mul_right v (show joinN a v w k n - 1 ≤ sc a w v true - 1 by omega)
      omega
theorem join_zero (a v w n : Nat) : joinN a v w 0 n = sc a w v true := by
  have := far_le a v w
  unfold joinN lowN
  omega
theorem join_top {a v w k n : Nat} (hv : 0 < v) (h : n * v = a * w) : joinN a v w k n = n := by
  have e : sc a w v true = n := by
    rw [sc, ← h, Nat.mul_div_cancel _ hv, Nat.mul_mod_left, if_neg (fun h => Nat.lt_irrefl 0 h.2), Nat.add_zero]
  have := low_le a v w k
  unfold joinN
  rw [e] at *
  omega
end Go.Proofs.Ytdfkcijholopoaa.Vm
namespace Go.Proofs.Ytdfkcijholopoaa
open Go.ChangeShapes Go.WideShapes Go.ChangeAt Go.RowKit Go.Joins
open Vm
set_option maxRecDepth 100000

theorem own : ownKnob Try.prog.godebug = none := by kernel_rfl
theorem laidOut : laidOutB Try.prog = true := by kernel_rfl
theorem cells24 : Try.prog.cellsOf 24 = 2 := by kernel_rfl

theorem u64_of_wf {a : Int} (h : (Lit.int .u64 a).wf = true) : ∃ n : Nat, n < 2 ^ 64 ∧ a = (n : Int) := by
  have h2 : 0 ≤ a ∧ a < 2 ^ 64 := by
    have h3 : IntKind.u64.min ≤ a ∧ a ≤ IntKind.u64.max := by simpa [Lit.wf] using h
    have e1 : IntKind.u64.min = 0 := rfl
    have e2 : IntKind.u64.max = 2 ^ 64 - 1 := rfl
    rw [e1, e2] at h3
    omega
  exact ⟨a.toNat, by omega, by omega⟩
theorem open_u64 {H : Type} {enc : TypeId × Value → H} {W : World} {base0 base : Nat} {spare : Nat → Bool} {held : Bool} {r : Reach} {v : Value} {d : DataW H} {p : List MemPlace}
    (hv : Value.okWide Try.prog W r base0 22 v) (h : DataW.Trod enc Try.prog W base spare held 22 v d p) : ∃ n : Nat, n < 2 ^ 64 ∧ v = u64 n := by
  obtain ⟨a, rfl, rfl, rfl, wa⟩ := open_int Try.underlying22 hv h
  obtain ⟨n, hn, rfl⟩ := u64_of_wf wa
  exact ⟨n, hn, rfl⟩
theorem open_wide {H : Type} {enc : TypeId × Value → H} {W : World} {base0 base : Nat} {spare : Nat → Bool} {held : Bool} {r : Reach} {v : Value} {d : DataW H} {p : List MemPlace}
    (hv : Value.okWide Try.prog W r base0 24 v) (h : DataW.Trod enc Try.prog W base spare held 24 v d p) : ∃ n : Nat, n < 2 ^ 128 ∧ v = wd n := by
  obtain ⟨c0, c1, y0, y1, m, rfl, rfl, rfl, hy0, hy1⟩ := open_agg2 Try.underlying24 (by kernel_rfl) cells24 hv h
  obtain ⟨a, e0, rfl, wa⟩ := DataW.trod_int Try.underlying22 hy0
  obtain ⟨b, e1, rfl, wb⟩ := DataW.trod_int Try.underlying22 hy1
  simp at e0 e1
  subst e0 e1
  obtain ⟨n, hn, rfl⟩ := u64_of_wf wa
  obtain ⟨k, hk, rfl⟩ := u64_of_wf wb
  refine ⟨n * 2 ^ 64 + k, by omega, ?_⟩
  unfold wd
  rw [show (n * 2 ^ 64 + k) / 2 ^ 64 = n by omega, show (n * 2 ^ 64 + k) % 2 ^ 64 = k by omega]

end Go.Proofs.Ytdfkcijholopoaa
