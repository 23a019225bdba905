/- What the proofs stand on, in one text: Nj10. -/
import Derived.Test.YtdfkcijholopoaaMgVtimeRuns15
namespace Go.Proofs.Ytdfkcijholopoaa.Vm
open Go Go.RowKit
set_option maxRecDepth 10000
set_option linter.unusedSimpArgs false
set_option linter.unusedVariables false

theorem p18x (ids : List Int) (mc : Nat) (hmc : ids.length ≤ mc) (a b : Int) : RO 18 [qnil, .slice (some ⟨0, 0, none⟩) ids.length mc, .agg #[.int .i64 a, .int .i64 b]] [(0, rws ic ids)] (.bool true) := by
  refine ro_of _ 1 Try.func18 rfl Try.ntmps18 (by kernel_rfl) (by simp) rfl rfl (by simp) (by simp [rcs_plain, ics_plain]) ?_
  refine vc_seq ?_
  refine vc_go (by kernel_rfl) fun K hK => hK _ _ _ ?_
  clear hK K
  refine vc_seq ?_
  refine vc_seq ?_
  refine vc_reg (by kernel_rfl) fun K hK => ?_
  refine run_call (p38) rfl rfl rfl rfl ?_
  refine run_end (z := false) fun K' hK' => hK' _ _ _ (hK _ _ _ ?_)
  clear hK' K' hK K
  refine vc_cond (t := false) rfl (fun h => by cases h) (fun _ => ?_)
  refine vc_skip ?_
  refine vc_seq ?_
  refine vc_reg (by kernel_rfl) fun K hK => ?_
  refine run_n (z := false) 1 (fun K' hK' => hK' _ _ _ ?_) (by decide)
  clear hK' K'
  refine run_fc (fun k => (k, 0)) p39nil (hasF trivial rfl) rfl rfl rfl rfl ⟨_, _, rfl, rfl⟩ ?_
  rintro _ _ ⟨rfl, rfl⟩
  refine run_end (z := false) fun K' hK' => hK' _ _ _ (hK _ _ _ ?_)
  clear hK' K' hK K
  obtain ⟨c2, hc2⟩ : ∃ c2, c2 = 0 := ⟨_, rfl⟩
  obtain ⟨l, hll⟩ : ∃ l : List Rn, l = [] := ⟨_, rfl⟩
  have hl : l.length ≤ 17 := by rw [hll]; decide
  refine renF (fun k => if k = 0 then 5 else if k = 1 then 4 else if k = 2 then 2 else 0) [(1, .slice (some ⟨3, 0, none⟩) ids.length mc), (5, .pointer (some ⟨2, 0, none⟩)), (6, .bool false), (7, .pointer (some ⟨0, 0, none⟩))] [(0, .cells [.slice (some ⟨1, 0, none⟩) l.length c2] 55 true), (1, .cells (rws rc l) 67 false), (2, .cells [.int .i64 a, .int .i64 b] 104 true), (3, .cells (rws ic ids) 3 false)] 4 (by decide) (fun m hm => absurd hm (Nat.not_lt_zero m)) ⟨rfl, rfl, rfl, rfl, trivial⟩ (by subst hll; subst hc2; exact ⟨sf_own rfl rfl, sf_winp (rcs_plain _) rfl get_zero, sf_ownp (by rfl) rfl rfl, sf_winp (ics_plain ids) rfl get_zero, trivial⟩) rfl (bdH_b (by decide) rfl (bdH_c (by decide) (rcs_plain l) (bdH_c (by decide) (by rfl) (bdH_c (by decide) (ics_plain ids) rfl)))) rfl ?_
  refine vc_seq ?_
  refine vc_reg (by kernel_rfl) fun K hK => ?_
  refine run_n (z := false) 3 (fun K' hK' => hK' _ _ _ ?_) (by decide)
  clear hK' K'
  refine run_fc (fun k => if k = 0 then (3, 0) else (1, 0)) (p69 hl hmc) (hasF ⟨sf_winp (ics_plain ids) rfl get_zero, sf_winp (rcs_plain l) rfl get_zero, trivial⟩ rfl) rfl rfl rfl rfl ⟨_, _, .inl ⟨rfl, rfl⟩⟩ ?_
  rintro _ _ (⟨rfl, rfl⟩ | ⟨L, cL, spL, hL, hpL, rfl, rfl⟩)
  · skip
    refine run_end (z := false) fun K' hK' => hK' _ _ _ (hK _ _ _ ?_)
    clear hK' K' hK K
    refine renF (fun k => if k = 3 then 2 else if k = 2 then 7 else k) [(5, .pointer (some ⟨3, 0, none⟩)), (6, .bool false), (7, .pointer (some ⟨0, 0, none⟩)), (8, .slice none 0 0)] [(0, .cells [.slice (some ⟨1, 0, none⟩) l.length c2] 55 true), (1, .cells (rws rc l) 67 false), (3, .cells [.int .i64 a, .int .i64 b] 104 true)] 4 (by decide) (fun m hm => absurd hm (Nat.not_lt_zero m)) ⟨rfl, rfl, rfl, rfl, trivial⟩ ⟨sf_own rfl rfl, sf_winp (rcs_plain l) rfl get_zero, sf_ownp (by rfl) rfl rfl, trivial⟩ rfl (bdH_b (by decide) rfl (bdH_c (by decide) (rcs_plain l) (bdH_c (by decide) (by rfl) rfl))) rfl ?_
    refine vc_seq ?_
    refine vc_goD [] (by kernel_rfl) (by kernel_rfl) fun K hK => hK _ _ _ _ ?_
    clear hK K
    refine vc_seq ?_
    obtain ⟨A, hA, eA⟩ := red a
    obtain ⟨B0, hB0, eB⟩ := red b
    refine vc_go (by kernel_rfl) fun K hK => hK _ _ _ ?_
    clear hK K
    refine refocusF [(6, .bool false), (7, .pointer (some ⟨0, 0, none⟩)), (8, .slice none 0 0), (9, .int .i64 ((A : Nat) : Int)), (10, .int .i64 ((B0 : Nat) : Int))] [(0, .cells [.slice (some ⟨1, 0, none⟩) l.length c2] 55 true), (1, .cells (rws rc l) 67 false)] 3 (by decide) ⟨rfl, rfl, rfl, ii eA, ii eB, trivial⟩ ⟨sb rfl, sb rfl, trivial⟩ rfl (bdH_b (by decide) rfl (bdH_c (by decide) (rcs_plain l) rfl)) ?_
    refine vc_seq ?_
    refine vc_mid (fun s => ∃ B : Nat, A + B ≤ 10000000 ∧ s = can [(6, .bool false), (7, .pointer (some ⟨0, 0, none⟩)), (8, .slice none 0 0), (9, .int .i64 ((A : Nat) : Int)), (10, .int .i64 ((B : Nat) : Int))] [(0, .cells [.slice (some ⟨1, 0, none⟩) l.length c2] 55 true), (1, .cells (rws rc l) 67 false)] 3) ?_ ?_
    · skip
      refine vc_seq ?_
      refine vc_go (by kernel_rfl) fun K hK => hK _ _ _ ?_
      clear hK K
      refine vc_cond rfl (fun h48 => ?_) (fun h48 => ?_)
      · -- cond 1 t48 true
        refine vc_go (by kernel_rfl) fun K hK => hK _ _ _ ?_
        clear hK K
        exact ⟨rfl, _, fg_focus [(6, .bool false), (7, .pointer (some ⟨0, 0, none⟩)), (8, .slice none 0 0), (9, .int .i64 ((A : Nat) : Int)), (10, .int .i64 (((10000000 - A) : Nat) : Int))] [(0, .cells [.slice (some ⟨1, 0, none⟩) l.length c2] 55 true), (1, .cells (rws rc l) 67 false)] 3 (by decide) ⟨rfl, rfl, rfl, rfl, ii (by rw [wrapI (by omega) (by omega)]; omega), trivial⟩ ⟨sb rfl, sb rfl, trivial⟩ rfl (bdH_b (by decide) rfl (bdH_c (by decide) (rcs_plain l) rfl)), 10000000 - A, by omega, rfl⟩
      · -- cond 1 t48 false
        refine vc_skip ?_
        exact ⟨rfl, _, fg_focus [(6, .bool false), (7, .pointer (some ⟨0, 0, none⟩)), (8, .slice none 0 0), (9, .int .i64 ((A : Nat) : Int)), (10, .int .i64 ((B0 : Nat) : Int))] [(0, .cells [.slice (some ⟨1, 0, none⟩) l.length c2] 55 true), (1, .cells (rws rc l) 67 false)] 3 (by decide) ⟨rfl, rfl, rfl, rfl, rfl, trivial⟩ ⟨sb rfl, sb rfl, trivial⟩ rfl (bdH_b (by decide) rfl (bdH_c (by decide) (rcs_plain l) rfl)), B0, by rw [decide_eq_false_iff_not, wrapI (by omega) (by omega)] at h48; omega, rfl⟩
    · skip
      rintro s2 ⟨B, hAB, rfl⟩
      refine vc_seq ?_
      rcases run_cases1 (nil := true) (l := l) (L := ([] : List Int)) (c := c2) (mc := 0) (d := A) (by omega) hl (by decide) (fun _ => rfl) with ⟨e, he, h70⟩ | ⟨l1, hl1e, hl1, hq, h1, h70⟩
      · skip
        refine vc_reg (by kernel_rfl) fun K hK => ?_
        refine run_n (z := false) 3 (fun K' hK' => hK' _ _ _ ?_) (by decide)
        clear hK' K'
        refine run_fc (fun k => if k = 0 then (1, 0) else (1, 0)) h70 (hasF ⟨sf_winp (rcs_plain _) rfl get_zero, sf_winp (ics_plain ([] : List Int)) rfl (fun i v hv => by simp [rws] at hv), trivial⟩ rfl) rfl rfl rfl rfl ⟨_, _, rfl, rfl⟩ ?_
        rintro _ _ ⟨rfl, rfl⟩
        refine run_end (z := false) fun K' hK' => hK' _ _ _ (hK _ _ _ ?_)
        clear hK' K' hK K
        refine vc_seq ?_
        refine vc_seq ?_
        refine vc_go (by kernel_rfl) fun K hK => hK _ _ _ ?_
        clear hK K
        refine vc_cond (t := true) (bb (bne_iff_ne.2 he)) (fun _ => ?_) (fun h => by cases h)
        refine vc_seq ?_
        refine vc_go (by kernel_rfl) fun K hK => hK _ _ _ ?_
        clear hK K
        exact vc_ret ⟨.inr rfl, rfl⟩
      · skip
        refine vc_reg (by kernel_rfl) fun K hK => ?_
        refine run_n (z := false) 3 (fun K' hK' => hK' _ _ _ ?_) (by decide)
        clear hK' K'
        refine run_fc (fun k => if k = 0 then (1, 0) else (1, 0)) h70 (hasF ⟨sf_winp (rcs_plain _) rfl get_zero, sf_winp (ics_plain ([] : List Int)) rfl (fun i v hv => by simp [rws] at hv), trivial⟩ rfl) rfl rfl rfl rfl ⟨_, _, 0, [], rfl, rfl, rfl⟩ ?_
        rintro _ _ ⟨c3, sp3, hp3, rfl, rfl⟩
        rw [renU_c (renB_p (plainL_append (rcs_plain _) hp3)) renU_nil]
        refine run_end (z := false) fun K' hK' => hK' _ _ _ (hK _ _ _ ?_)
        clear hK' K' hK K
        refine refocusF [(6, .bool false), (7, .pointer (some ⟨0, 0, none⟩)), (8, .slice none 0 0), (9, .int .i64 ((A : Nat) : Int)), (10, .int .i64 ((B : Nat) : Int)), (11, .pointer (some ⟨10, 0, none⟩)), (12, .int .i64 0)] [(0, .cells [.slice (some ⟨1, 0, none⟩) l.length c2] 55 true), (1, .cells (rws rc l) 67 false), (6, .cells (rws rc l1 ++ sp3) 67 true), (10, .cells [.slice (some ⟨6, 0, none⟩) l1.length c3] 55 true)] 11 (by decide) ⟨rfl, rfl, rfl, rfl, rfl, rfl, rfl, trivial⟩ ⟨sb rfl, sb rfl, sb rfl, sb rfl, trivial⟩ rfl (bdH_b (by decide) rfl (bdH_c (by decide) (rcs_plain l) (bdH_c (by decide) (plainL_append (rcs_plain _) hp3) (bdH_b (by decide) rfl rfl)))) ?_
        refine vc_seq ?_
        refine vc_seq ?_
        refine vc_go (by kernel_rfl) fun K hK => hK _ _ _ ?_
        clear hK K
        refine vc_cond (t := false) (bb (by simp)) (fun h => by cases h) (fun _ => ?_)
        refine vc_skip ?_
        refine vc_seq ?_
        have hw : IntKind.i64.wrap ((A : Int) + (B : Int)) = ((A + B : Nat) : Int) := by rw [wrapI (by omega) (by omega)]; omega
        rcases run_cases2 (nil := true) (l := l) (l1 := l1) (L := ([] : List Int)) (c := c2) (mc := 0) hAB hl (by decide) (fun _ => rfl) hq h1 hl1e with ⟨e, he, h70a, h70b⟩ | ⟨l2, hl2, h70a, h70b⟩
        · skip
          refine vc_reg (by kernel_rfl) fun K hK => ?_
          refine run_n (z := false) 3 (fun K' hK' => hK' _ _ _ ?_) (by decide)
          clear hK' K'
          refine run_fc (fun k => if k = 0 then (6, 0) else (1, 0)) (h70a c3) (hasF ⟨sf_winp (rcs_plain _) rfl get_zero_app, sf_winp (ics_plain ([] : List Int)) rfl (fun i v hv => by simp [rws] at hv), trivial⟩ rfl) rfl rfl rfl rfl ⟨_, _, rfl, rfl⟩ ?_
          rintro _ _ ⟨rfl, rfl⟩
          refine run_end (z := false) fun K' hK' => hK' _ _ _ (hK _ _ _ ?_)
          clear hK' K' hK K
          refine vc_seq ?_
          refine vc_reg (by kernel_rfl) fun K hK => ?_
          refine run_n (z := false) 5 (fun K' hK' => hK' _ _ _ ?_) (by decide)
          clear hK' K'
          refine run_fc (fun k => if k = 0 then (1, 0) else (1, 0)) h70b (hasF ⟨sf_winp (rcs_plain _) rfl get_zero, sf_winp (ics_plain ([] : List Int)) rfl (fun i v hv => by simp [rws] at hv), trivial⟩ rfl) rfl rfl (congrArg (fun x => [qv 1 l.length c2, .slice none 0 0, .int .i64 x]) hw) rfl ⟨_, _, rfl, rfl⟩ ?_
          rintro _ _ ⟨rfl, rfl⟩
          refine run_end (z := false) fun K' hK' => hK' _ _ _ (hK _ _ _ ?_)
          clear hK' K' hK K
          refine vc_seq ?_
          refine vc_seq ?_
          refine vc_reg (by kernel_rfl) fun K hK => ?_
          refine run_n (z := false) 4 (fun K' hK' => hK' _ _ _ ?_) (by decide)
          clear hK' K'
          refine vgo_known 83 (b := false) (bb (by simp)) ?_
          refine run_n (z := false) 3 (fun K' hK' => hK' _ _ _ ?_) (by decide)
          clear hK' K'
          refine vgo_known 86 (b := false) (bb (by simpa using he)) ?_
          refine run_end (z := false) fun K' hK' => hK' _ _ _ (hK _ _ _ ?_)
          clear hK' K' hK K
          refine vc_cond (t := false) rfl (fun h => by cases h) (fun _ => ?_)
          refine vc_skip ?_
          refine vc_seq ?_
          refine vc_seq ?_
          refine vc_go (by kernel_rfl) fun K hK => hK _ _ _ ?_
          clear hK K
          refine vc_block ?_
          refine vc_loopF (fun n s => ∃ (j : Nat), n = l1.length - j ∧ j ≤ l1.length ∧ s = can [(6, .bool false), (7, .pointer (some ⟨0, 0, none⟩)), (8, .slice none 0 0), (9, .int .i64 ((A : Nat) : Int)), (94, .slice (some ⟨3, 0, none⟩) l1.length c3), (95, .int .i64 (l1.length : Int)), (96, .int .i64 ((j : Nat) : Int))] [(0, .cells [.slice (some ⟨1, 0, none⟩) l.length c2] 55 true), (1, .cells (rws rc l) 67 false), (3, .cells (rws rc l1 ++ sp3) 67 true)] 4) l1.length ?_ ?_
          · exact ⟨_, fg_ren (fun k => if k = 3 then 6 else k) [(6, .bool false), (7, .pointer (some ⟨0, 0, none⟩)), (8, .slice none 0 0), (9, .int .i64 ((A : Nat) : Int)), (94, .slice (some ⟨3, 0, none⟩) l1.length c3), (95, .int .i64 (l1.length : Int)), (96, .int .i64 ((0 : Nat) : Int))] [(0, .cells [.slice (some ⟨1, 0, none⟩) l.length c2] 55 true), (1, .cells (rws rc l) 67 false), (3, .cells (rws rc l1 ++ sp3) 67 true)] 4 (by decide) (fun m hm => absurd hm (Nat.not_lt_zero m)) ⟨rfl, rfl, rfl, rfl, rfl, rfl, rfl, trivial⟩ ⟨sf_own rfl rfl, sf_winp (rcs_plain l) rfl get_zero, sf_ownp (plainL_append (rcs_plain _) hp3) rfl rfl, trivial⟩ rfl (bdH_b (by decide) rfl (bdH_c (by decide) (rcs_plain l) (bdH_c (by decide) (plainL_append (rcs_plain _) hp3) rfl))) rfl, 0, rfl, Nat.zero_le _, rfl⟩
          · rintro n s ⟨j, hn, hj, rfl⟩
            refine vc_seq ?_
            refine vc_go (by kernel_rfl) fun K hK => hK _ _ _ ?_
            clear hK K
            refine vc_seq ?_
            refine vc_cond rfl (fun c0 => ?_) (fun c0 => ?_)
            · -- cond 5 t97 true
              refine vc_skip ?_
              refine vc_seq ?_
              refine vc_block ?_
              refine vc_seq ?_
              have hlt := len_le c0
              obtain ⟨r, hr⟩ : ∃ r, l1[j]? = some r := ⟨l1[j], List.getElem?_eq_getElem hlt⟩
              obtain ⟨was, hg, _, hid, hokw, hrun⟩ := (run_one hq (by omega) h1).2 j r (by rw [← hl1e]; exact hr)
              have h43 := p43 l c2 r.id (by omega)
              rw [hg] at h43
              have hrt : rt was.n was.w = true := okR_rt hokw
              refine vc_reg (by kernel_rfl) fun K hK => ?_
              refine run_op (vex_ixs (j := j) rfl rfl rfl hlt rfl rfl) rfl ?_
              refine run_rd (vex_ldr rc_len (j := 0) (i := j) (d := rc r) rfl (Nat.zero_add _) rfl (rfl) rfl hr (by decide) rfl) rfl ?_
              refine run_end (z := false) fun K' hK' => hK' _ _ _ (hK _ _ _ ?_)
              clear hK' K' hK K
              refine vc_seq ?_
              refine vc_reg (by kernel_rfl) fun K hK => ?_
              refine run_n (z := false) 3 (fun K' hK' => hK' _ _ _ ?_) (by decide)
              clear hK' K'
              refine run_ro (fun _ => (1, 0)) (h43) ?_ rfl rfl rfl rfl ?_
              · intro x hx
                simp only [List.mem_singleton] at hx
                subst hx
                exact ⟨_, _, _, rfl, fun i v hv => by rw [Nat.zero_add]; exact hv⟩
              refine run_end (z := false) fun K' hK' => hK' _ _ _ (hK _ _ _ ?_)
              clear hK' K' hK K
              refine vc_seq ?_
              refine vc_seq ?_
              refine vc_go (by kernel_rfl) fun K hK => hK _ _ _ ?_
              clear hK K
              refine vc_cond (t := false) rfl (fun h => by cases h) (fun _ => ?_)
              refine vc_skip ?_
              refine vc_seq ?_
              refine vc_go (by kernel_rfl) fun K hK => hK _ _ _ ?_
              clear hK K
              refine vc_seq ?_
              refine vc_seq ?_
              refine vc_go (by kernel_rfl) fun K hK => hK _ _ _ ?_
              clear hK K
              refine vc_block ?_
              refine vc_rounds 1 ?_
              refine vc_seq ?_
              refine vc_go (by kernel_rfl) fun K hK => hK _ _ _ ?_
              clear hK K
              refine vc_seq ?_
              refine vc_cond (t := false) rfl (fun h => by cases h) (fun _ => ?_)
              refine vc_exit ?_
              refine vc_seq ?_
              skip
              · rw [if_neg (by simp)] at hrun
                obtain ⟨n9, w9, e9, h63⟩ : ∃ (n9 w9 : Nat) (e9 : Int), Pure 63 [fr was.n was.w, u64 (kR A was)] (.tuple #[fr n9 w9, .int .i64 e9]) := by
                  by_cases hs : was.n + kR A was < 2 ^ 100
                  · exact ⟨_, _, _, p63y hrt (kR_lt A was) hs⟩
                  · exact ⟨_, _, _, p63r hrt (kR_lt A was) hs⟩
                refine vc_reg (by kernel_rfl) fun K hK => ?_
                refine run_n (z := false) 8 (fun K' hK' => hK' _ _ _ ?_) (by decide)
                clear hK' K'
                refine run_call h63 rfl (congrArg (fun x => [fr was.n was.w, .int .u64 x]) (kR_raw (by omega) was)) rfl rfl ?_
                refine run_end (z := false) fun K' hK' => hK' _ _ _ (hK _ _ _ ?_)
                clear hK' K' hK K
                refine vc_seq ?_
                refine vc_reg (by kernel_rfl) fun K hK => ?_
                refine run_n (z := false) 2 (fun K' hK' => hK' _ _ _ ?_) (by decide)
                clear hK' K'
                refine vgo_known 136 (b := false) (rfl) ?_
                refine run_n (z := false) 10 (fun K' hK' => hK' _ _ _ ?_) (by decide)
                clear hK' K'
                refine vgo_known 146 (b := false) (rfl) ?_
                refine run_n (z := false) 3 (fun K' hK' => hK' _ _ _ ?_) (by decide)
                clear hK' K'
                refine vgo_known 149 (b := true) (rfl) ?_
                refine run_end (z := false) fun K' hK' => hK' _ _ _ (hK _ _ _ ?_)
                clear hK' K' hK K
                refine vc_cond (t := false) (bb (by rw [rn_beq]; first | (rw [decide_eq_true (show r = (some was).getD z0 from hrun)]; rfl) | (rw [decide_eq_true hrun]; rfl))) (fun h => by cases h) (fun _ => ?_)
                refine vc_skip ?_
                refine vc_go (by kernel_rfl) fun K hK => hK _ _ _ ?_
                clear hK K
                exact ⟨_, fg_focus [(6, .bool false), (7, .pointer (some ⟨0, 0, none⟩)), (8, .slice none 0 0), (9, .int .i64 ((A : Nat) : Int)), (94, .slice (some ⟨3, 0, none⟩) l1.length c3), (95, .int .i64 (l1.length : Int)), (96, .int .i64 ((j + 1 : Nat) : Int))] [(0, .cells [.slice (some ⟨1, 0, none⟩) l.length c2] 55 true), (1, .cells (rws rc l) 67 false), (3, .cells (rws rc l1 ++ sp3) 67 true)] 4 (by decide) ⟨rfl, rfl, rfl, rfl, rfl, rfl, ii (wrapI (by omega) (by omega)), trivial⟩ ⟨sb rfl, sb rfl, sb rfl, trivial⟩ rfl (bdH_b (by decide) rfl (bdH_c (by decide) (rcs_plain l) (bdH_c (by decide) (plainL_append (rcs_plain _) hp3) rfl))), l1.length - (j + 1), by omega, j + 1, rfl, hlt, rfl⟩
            · -- cond 5 t97 false
              refine vc_exit ?_
              refine vc_seq ?_
              refine vc_go (by kernel_rfl) fun K hK => hK _ _ _ ?_
              clear hK K
              exact vc_ret ⟨.inr rfl, rfl⟩
        · skip
          refine vc_reg (by kernel_rfl) fun K hK => ?_
          refine run_n (z := false) 3 (fun K' hK' => hK' _ _ _ ?_) (by decide)
          clear hK' K'
          refine run_fc (fun k => if k = 0 then (6, 0) else (1, 0)) (h70a c3) (hasF ⟨sf_winp (rcs_plain _) rfl get_zero_app, sf_winp (ics_plain ([] : List Int)) rfl (fun i v hv => by simp [rws] at hv), trivial⟩ rfl) rfl rfl rfl rfl ⟨_, _, 0, [], rfl, rfl, rfl⟩ ?_
          rintro _ _ ⟨c4, sp4, hp4, rfl, rfl⟩
          rw [renU_c (renB_p (plainL_append (rcs_plain _) hp4)) renU_nil]
          refine run_end (z := false) fun K' hK' => hK' _ _ _ (hK _ _ _ ?_)
          clear hK' K' hK K
          refine vc_seq ?_
          refine vc_reg (by kernel_rfl) fun K hK => ?_
          refine run_n (z := false) 5 (fun K' hK' => hK' _ _ _ ?_) (by decide)
          clear hK' K'
          refine run_fc (fun k => if k = 0 then (1, 0) else (1, 0)) h70b (hasF ⟨sf_winp (rcs_plain _) rfl get_zero, sf_winp (ics_plain ([] : List Int)) rfl (fun i v hv => by simp [rws] at hv), trivial⟩ rfl) rfl rfl (congrArg (fun x => [qv 1 l.length c2, .slice none 0 0, .int .i64 x]) hw) rfl ⟨_, _, 0, [], rfl, rfl, rfl⟩ ?_
          rintro _ _ ⟨c5, sp5, hp5, rfl, rfl⟩
          rw [renU_c (renB_p (plainL_append (rcs_plain _) hp5)) renU_nil]
          refine run_end (z := false) fun K' hK' => hK' _ _ _ (hK _ _ _ ?_)
          clear hK' K' hK K
          refine vc_seq ?_
          refine vc_seq ?_
          refine vc_reg (by kernel_rfl) fun K hK => ?_
          refine run_n (z := false) 4 (fun K' hK' => hK' _ _ _ ?_) (by decide)
          clear hK' K'
          refine vgo_known 83 (b := false) (bb (by simp)) ?_
          refine run_n (z := false) 3 (fun K' hK' => hK' _ _ _ ?_) (by decide)
          clear hK' K'
          refine vgo_known 86 (b := true) (rfl) ?_
          refine run_n (z := false) 2 (fun K' hK' => hK' _ _ _ ?_) (by decide)
          clear hK' K'
          refine run_ro (fun k => if k = 0 then (14, 0) else (24, 0)) (same_ro l2 c4 c5 (by omega)) ?_ rfl rfl rfl rfl ?_
          · intro x hx
            simp only [List.mem_cons, List.mem_singleton, List.not_mem_nil, or_false] at hx
            rcases hx with rfl | rfl
            · exact ⟨_, _, _, rfl, get_zero_app⟩
            · exact ⟨_, _, _, rfl, get_zero_app⟩
          refine run_end (z := false) fun K' hK' => hK' _ _ _ (hK _ _ _ ?_)
          clear hK' K' hK K
          refine vc_cond (t := false) rfl (fun h => by cases h) (fun _ => ?_)
          refine vc_skip ?_
          refine vc_seq ?_
          refine vc_seq ?_
          refine vc_go (by kernel_rfl) fun K hK => hK _ _ _ ?_
          clear hK K
          refine vc_block ?_
          refine vc_loopF (fun n s => ∃ (j : Nat), n = l1.length - j ∧ j ≤ l1.length ∧ s = can [(6, .bool false), (7, .pointer (some ⟨0, 0, none⟩)), (8, .slice none 0 0), (9, .int .i64 ((A : Nat) : Int)), (94, .slice (some ⟨3, 0, none⟩) l1.length c3), (95, .int .i64 (l1.length : Int)), (96, .int .i64 ((j : Nat) : Int))] [(0, .cells [.slice (some ⟨1, 0, none⟩) l.length c2] 55 true), (1, .cells (rws rc l) 67 false), (3, .cells (rws rc l1 ++ sp3) 67 true)] 4) l1.length ?_ ?_
          · exact ⟨_, fg_ren (fun k => if k = 3 then 6 else k) [(6, .bool false), (7, .pointer (some ⟨0, 0, none⟩)), (8, .slice none 0 0), (9, .int .i64 ((A : Nat) : Int)), (94, .slice (some ⟨3, 0, none⟩) l1.length c3), (95, .int .i64 (l1.length : Int)), (96, .int .i64 ((0 : Nat) : Int))] [(0, .cells [.slice (some ⟨1, 0, none⟩) l.length c2] 55 true), (1, .cells (rws rc l) 67 false), (3, .cells (rws rc l1 ++ sp3) 67 true)] 4 (by decide) (fun m hm => absurd hm (Nat.not_lt_zero m)) ⟨rfl, rfl, rfl, rfl, rfl, rfl, rfl, trivial⟩ ⟨sf_own rfl rfl, sf_winp (rcs_plain l) rfl get_zero, sf_ownp (plainL_append (rcs_plain _) hp3) rfl rfl, trivial⟩ rfl (bdH_b (by decide) rfl (bdH_c (by decide) (rcs_plain l) (bdH_c (by decide) (plainL_append (rcs_plain _) hp3) rfl))) rfl, 0, rfl, Nat.zero_le _, rfl⟩
          · rintro n s ⟨j, hn, hj, rfl⟩
            refine vc_seq ?_
            refine vc_go (by kernel_rfl) fun K hK => hK _ _ _ ?_
            clear hK K
            refine vc_seq ?_
            refine vc_cond rfl (fun c0 => ?_) (fun c0 => ?_)
            · -- cond 10 t97 true
              refine vc_skip ?_
              refine vc_seq ?_
              refine vc_block ?_
              refine vc_seq ?_
              have hlt := len_le c0
              obtain ⟨r, hr⟩ : ∃ r, l1[j]? = some r := ⟨l1[j], List.getElem?_eq_getElem hlt⟩
              obtain ⟨was, hg, _, hid, hokw, hrun⟩ := (run_one hq (by omega) h1).2 j r (by rw [← hl1e]; exact hr)
              have h43 := p43 l c2 r.id (by omega)
              rw [hg] at h43
              have hrt : rt was.n was.w = true := okR_rt hokw
              refine vc_reg (by kernel_rfl) fun K hK => ?_
              refine run_op (vex_ixs (j := j) rfl rfl rfl hlt rfl rfl) rfl ?_
              refine run_rd (vex_ldr rc_len (j := 0) (i := j) (d := rc r) rfl (Nat.zero_add _) rfl (rfl) rfl hr (by decide) rfl) rfl ?_
              refine run_end (z := false) fun K' hK' => hK' _ _ _ (hK _ _ _ ?_)
              clear hK' K' hK K
              refine vc_seq ?_
              refine vc_reg (by kernel_rfl) fun K hK => ?_
              refine run_n (z := false) 3 (fun K' hK' => hK' _ _ _ ?_) (by decide)
              clear hK' K'
              refine run_ro (fun _ => (1, 0)) (h43) ?_ rfl rfl rfl rfl ?_
              · intro x hx
                simp only [List.mem_singleton] at hx
                subst hx
                exact ⟨_, _, _, rfl, fun i v hv => by rw [Nat.zero_add]; exact hv⟩
              refine run_end (z := false) fun K' hK' => hK' _ _ _ (hK _ _ _ ?_)
              clear hK' K' hK K
              refine vc_seq ?_
              refine vc_seq ?_
              refine vc_go (by kernel_rfl) fun K hK => hK _ _ _ ?_
              clear hK K
              refine vc_cond (t := false) rfl (fun h => by cases h) (fun _ => ?_)
              refine vc_skip ?_
              refine vc_seq ?_
              refine vc_go (by kernel_rfl) fun K hK => hK _ _ _ ?_
              clear hK K
              refine vc_seq ?_
              refine vc_seq ?_
              refine vc_go (by kernel_rfl) fun K hK => hK _ _ _ ?_
              clear hK K
              refine vc_block ?_
              refine vc_rounds 1 ?_
              refine vc_seq ?_
              refine vc_go (by kernel_rfl) fun K hK => hK _ _ _ ?_
              clear hK K
              refine vc_seq ?_
              refine vc_cond (t := false) rfl (fun h => by cases h) (fun _ => ?_)
              refine vc_exit ?_
              refine vc_seq ?_
              skip
              · rw [if_neg (by simp)] at hrun
                obtain ⟨n9, w9, e9, h63⟩ : ∃ (n9 w9 : Nat) (e9 : Int), Pure 63 [fr was.n was.w, u64 (kR A was)] (.tuple #[fr n9 w9, .int .i64 e9]) := by
                  by_cases hs : was.n + kR A was < 2 ^ 100
                  · exact ⟨_, _, _, p63y hrt (kR_lt A was) hs⟩
                  · exact ⟨_, _, _, p63r hrt (kR_lt A was) hs⟩
                refine vc_reg (by kernel_rfl) fun K hK => ?_
                refine run_n (z := false) 8 (fun K' hK' => hK' _ _ _ ?_) (by decide)
                clear hK' K'
                refine run_call h63 rfl (congrArg (fun x => [fr was.n was.w, .int .u64 x]) (kR_raw (by omega) was)) rfl rfl ?_
                refine run_end (z := false) fun K' hK' => hK' _ _ _ (hK _ _ _ ?_)
                clear hK' K' hK K
                refine vc_seq ?_
                refine vc_reg (by kernel_rfl) fun K hK => ?_
                refine run_n (z := false) 2 (fun K' hK' => hK' _ _ _ ?_) (by decide)
                clear hK' K'
                refine vgo_known 136 (b := false) (rfl) ?_
                refine run_n (z := false) 10 (fun K' hK' => hK' _ _ _ ?_) (by decide)
                clear hK' K'
                refine vgo_known 146 (b := false) (rfl) ?_
                refine run_n (z := false) 3 (fun K' hK' => hK' _ _ _ ?_) (by decide)
                clear hK' K'
                refine vgo_known 149 (b := true) (rfl) ?_
                refine run_end (z := false) fun K' hK' => hK' _ _ _ (hK _ _ _ ?_)
                clear hK' K' hK K
                refine vc_cond (t := false) (bb (by rw [rn_beq]; first | (rw [decide_eq_true (show r = (some was).getD z0 from hrun)]; rfl) | (rw [decide_eq_true hrun]; rfl))) (fun h => by cases h) (fun _ => ?_)
                refine vc_skip ?_
                refine vc_go (by kernel_rfl) fun K hK => hK _ _ _ ?_
                clear hK K
                exact ⟨_, fg_focus [(6, .bool false), (7, .pointer (some ⟨0, 0, none⟩)), (8, .slice none 0 0), (9, .int .i64 ((A : Nat) : Int)), (94, .slice (some ⟨3, 0, none⟩) l1.length c3), (95, .int .i64 (l1.length : Int)), (96, .int .i64 ((j + 1 : Nat) : Int))] [(0, .cells [.slice (some ⟨1, 0, none⟩) l.length c2] 55 true), (1, .cells (rws rc l) 67 false), (3, .cells (rws rc l1 ++ sp3) 67 true)] 4 (by decide) ⟨rfl, rfl, rfl, rfl, rfl, rfl, ii (wrapI (by omega) (by omega)), trivial⟩ ⟨sb rfl, sb rfl, sb rfl, trivial⟩ rfl (bdH_b (by decide) rfl (bdH_c (by decide) (rcs_plain l) (bdH_c (by decide) (plainL_append (rcs_plain _) hp3) rfl))), l1.length - (j + 1), by omega, j + 1, rfl, hlt, rfl⟩
            · -- cond 10 t97 false
              refine vc_exit ?_
              refine vc_seq ?_
              refine vc_go (by kernel_rfl) fun K hK => hK _ _ _ ?_
              clear hK K
              exact vc_ret ⟨.inr rfl, rfl⟩
  · rw [renU_c (renB_p (plainL_append (ics_plain _) hpL)) renU_nil]
    refine run_end (z := false) fun K' hK' => hK' _ _ _ (hK _ _ _ ?_)
    clear hK' K' hK K
    refine renF (fun k => if k = 3 then 2 else if k = 2 then 7 else k) [(5, .pointer (some ⟨3, 0, none⟩)), (6, .bool false), (7, .pointer (some ⟨0, 0, none⟩)), (8, .slice (some ⟨2, 0, none⟩) L.length cL)] [(0, .cells [.slice (some ⟨1, 0, none⟩) l.length c2] 55 true), (1, .cells (rws rc l) 67 false), (2, .cells (rws ic L ++ spL) 3 true), (3, .cells [.int .i64 a, .int .i64 b] 104 true)] 4 (by decide) (fun m hm => absurd hm (Nat.not_lt_zero m)) ⟨rfl, rfl, rfl, rfl, trivial⟩ ⟨sf_own rfl rfl, sf_winp (rcs_plain l) rfl get_zero, sf_ownp (plainL_append (ics_plain _) hpL) rfl rfl, sf_ownp (by rfl) rfl rfl, trivial⟩ rfl (bdH_b (by decide) rfl (bdH_c (by decide) (rcs_plain l) (bdH_c (by decide) (plainL_append (ics_plain _) hpL) (bdH_c (by decide) (by rfl) rfl)))) rfl ?_
    refine vc_seq ?_
    refine vc_goD [] (by kernel_rfl) (by kernel_rfl) fun K hK => hK _ _ _ _ ?_
    clear hK K
    refine vc_seq ?_
    obtain ⟨A, hA, eA⟩ := red a
    obtain ⟨B0, hB0, eB⟩ := red b
    refine vc_go (by kernel_rfl) fun K hK => hK _ _ _ ?_
    clear hK K
    refine refocusF [(6, .bool false), (7, .pointer (some ⟨0, 0, none⟩)), (8, .slice (some ⟨2, 0, none⟩) L.length cL), (9, .int .i64 ((A : Nat) : Int)), (10, .int .i64 ((B0 : Nat) : Int))] [(0, .cells [.slice (some ⟨1, 0, none⟩) l.length c2] 55 true), (1, .cells (rws rc l) 67 false), (2, .cells (rws ic L ++ spL) 3 true)] 3 (by decide) ⟨rfl, rfl, rfl, ii eA, ii eB, trivial⟩ ⟨sb rfl, sb rfl, sb rfl, trivial⟩ rfl (bdH_b (by decide) rfl (bdH_c (by decide) (rcs_plain l) (bdH_c (by decide) (plainL_append (ics_plain _) hpL) rfl))) ?_
    refine vc_seq ?_
    refine vc_mid (fun s => ∃ B : Nat, A + B ≤ 10000000 ∧ s = can [(6, .bool false), (7, .pointer (some ⟨0, 0, none⟩)), (8, .slice (some ⟨2, 0, none⟩) L.length cL), (9, .int .i64 ((A : Nat) : Int)), (10, .int .i64 ((B : Nat) : Int))] [(0, .cells [.slice (some ⟨1, 0, none⟩) l.length c2] 55 true), (1, .cells (rws rc l) 67 false), (2, .cells (rws ic L ++ spL) 3 true)] 3) ?_ ?_
    · skip
      refine vc_seq ?_
      refine vc_go (by kernel_rfl) fun K hK => hK _ _ _ ?_
      clear hK K
      refine vc_cond rfl (fun h48 => ?_) (fun h48 => ?_)
      · -- cond 14 t48 true
        refine vc_go (by kernel_rfl) fun K hK => hK _ _ _ ?_
        clear hK K
        exact ⟨rfl, _, fg_focus [(6, .bool false), (7, .pointer (some ⟨0, 0, none⟩)), (8, .slice (some ⟨2, 0, none⟩) L.length cL), (9, .int .i64 ((A : Nat) : Int)), (10, .int .i64 (((10000000 - A) : Nat) : Int))] [(0, .cells [.slice (some ⟨1, 0, none⟩) l.length c2] 55 true), (1, .cells (rws rc l) 67 false), (2, .cells (rws ic L ++ spL) 3 true)] 3 (by decide) ⟨rfl, rfl, rfl, rfl, ii (by rw [wrapI (by omega) (by omega)]; omega), trivial⟩ ⟨sb rfl, sb rfl, sb rfl, trivial⟩ rfl (bdH_b (by decide) rfl (bdH_c (by decide) (rcs_plain l) (bdH_c (by decide) (plainL_append (ics_plain _) hpL) rfl))), 10000000 - A, by omega, rfl⟩
      · -- cond 14 t48 false
        refine vc_skip ?_
        exact ⟨rfl, _, fg_focus [(6, .bool false), (7, .pointer (some ⟨0, 0, none⟩)), (8, .slice (some ⟨2, 0, none⟩) L.length cL), (9, .int .i64 ((A : Nat) : Int)), (10, .int .i64 ((B0 : Nat) : Int))] [(0, .cells [.slice (some ⟨1, 0, none⟩) l.length c2] 55 true), (1, .cells (rws rc l) 67 false), (2, .cells (rws ic L ++ spL) 3 true)] 3 (by decide) ⟨rfl, rfl, rfl, rfl, rfl, trivial⟩ ⟨sb rfl, sb rfl, sb rfl, trivial⟩ rfl (bdH_b (by decide) rfl (bdH_c (by decide) (rcs_plain l) (bdH_c (by decide) (plainL_append (ics_plain _) hpL) rfl))), B0, by rw [decide_eq_false_iff_not, wrapI (by omega) (by omega)] at h48; omega, rfl⟩
    · skip
      rintro s2 ⟨B, hAB, rfl⟩
      refine vc_seq ?_
      rcases run_cases1 (nil := false) (l := l) (L := L) (c := c2) (mc := cL) (d := A) (by omega) hl hL (fun h => by cases h) with ⟨e, he, h70⟩ | ⟨l1, hl1e, hl1, hq, h1, h70⟩
      · skip
        refine vc_reg (by kernel_rfl) fun K hK => ?_
        refine run_n (z := false) 3 (fun K' hK' => hK' _ _ _ ?_) (by decide)
        clear hK' K'
        refine run_fc (fun k => if k = 0 then (1, 0) else (2, 0)) h70 (hasF ⟨sf_winp (rcs_plain _) rfl get_zero, sf_winp (ics_plain L) rfl get_zero_app, trivial⟩ rfl) rfl rfl rfl rfl ⟨_, _, rfl, rfl⟩ ?_
        rintro _ _ ⟨rfl, rfl⟩
        refine run_end (z := false) fun K' hK' => hK' _ _ _ (hK _ _ _ ?_)
        clear hK' K' hK K
        refine vc_seq ?_
        refine vc_seq ?_
        refine vc_go (by kernel_rfl) fun K hK => hK _ _ _ ?_
        clear hK K
        refine vc_cond (t := true) (bb (bne_iff_ne.2 he)) (fun _ => ?_) (fun h => by cases h)
        refine vc_seq ?_
        refine vc_go (by kernel_rfl) fun K hK => hK _ _ _ ?_
        clear hK K
        exact vc_ret ⟨.inr rfl, rfl⟩
      · skip
        refine vc_reg (by kernel_rfl) fun K hK => ?_
        refine run_n (z := false) 3 (fun K' hK' => hK' _ _ _ ?_) (by decide)
        clear hK' K'
        refine run_fc (fun k => if k = 0 then (1, 0) else (2, 0)) h70 (hasF ⟨sf_winp (rcs_plain _) rfl get_zero, sf_winp (ics_plain L) rfl get_zero_app, trivial⟩ rfl) rfl rfl rfl rfl ⟨_, _, 0, [], rfl, rfl, rfl⟩ ?_
        rintro _ _ ⟨c3, sp3, hp3, rfl, rfl⟩
        rw [renU_c (renB_p (plainL_append (rcs_plain _) hp3)) renU_nil]
        refine run_end (z := false) fun K' hK' => hK' _ _ _ (hK _ _ _ ?_)
        clear hK' K' hK K
        refine refocusF [(6, .bool false), (7, .pointer (some ⟨0, 0, none⟩)), (8, .slice (some ⟨2, 0, none⟩) L.length cL), (9, .int .i64 ((A : Nat) : Int)), (10, .int .i64 ((B : Nat) : Int)), (11, .pointer (some ⟨10, 0, none⟩)), (12, .int .i64 0)] [(0, .cells [.slice (some ⟨1, 0, none⟩) l.length c2] 55 true), (1, .cells (rws rc l) 67 false), (2, .cells (rws ic L ++ spL) 3 true), (6, .cells (rws rc l1 ++ sp3) 67 true), (10, .cells [.slice (some ⟨6, 0, none⟩) l1.length c3] 55 true)] 11 (by decide) ⟨rfl, rfl, rfl, rfl, rfl, rfl, rfl, trivial⟩ ⟨sb rfl, sb rfl, sb rfl, sb rfl, sb rfl, trivial⟩ rfl (bdH_b (by decide) rfl (bdH_c (by decide) (rcs_plain l) (bdH_c (by decide) (plainL_append (ics_plain _) hpL) (bdH_c (by decide) (plainL_append (rcs_plain _) hp3) (bdH_b (by decide) rfl rfl))))) ?_
        refine vc_seq ?_
        refine vc_seq ?_
        refine vc_go (by kernel_rfl) fun K hK => hK _ _ _ ?_
        clear hK K
        refine vc_cond (t := false) (bb (by simp)) (fun h => by cases h) (fun _ => ?_)
        refine vc_skip ?_
        refine vc_seq ?_
        have hw : IntKind.i64.wrap ((A : Int) + (B : Int)) = ((A + B : Nat) : Int) := by rw [wrapI (by omega) (by omega)]; omega
        rcases run_cases2 (nil := false) (l := l) (l1 := l1) (L := L) (c := c2) (mc := cL) hAB hl hL (fun h => by cases h) hq h1 hl1e with ⟨e, he, h70a, h70b⟩ | ⟨l2, hl2, h70a, h70b⟩
        · skip
          refine vc_reg (by kernel_rfl) fun K hK => ?_
          refine run_n (z := false) 3 (fun K' hK' => hK' _ _ _ ?_) (by decide)
          clear hK' K'
          refine run_fc (fun k => if k = 0 then (6, 0) else (2, 0)) (h70a c3) (hasF ⟨sf_winp (rcs_plain _) rfl get_zero_app, sf_winp (ics_plain L) rfl get_zero_app, trivial⟩ rfl) rfl rfl rfl rfl ⟨_, _, rfl, rfl⟩ ?_
          rintro _ _ ⟨rfl, rfl⟩
          refine run_end (z := false) fun K' hK' => hK' _ _ _ (hK _ _ _ ?_)
          clear hK' K' hK K
          refine vc_seq ?_
          refine vc_reg (by kernel_rfl) fun K hK => ?_
          refine run_n (z := false) 5 (fun K' hK' => hK' _ _ _ ?_) (by decide)
          clear hK' K'
          refine run_fc (fun k => if k = 0 then (1, 0) else (2, 0)) h70b (hasF ⟨sf_winp (rcs_plain _) rfl get_zero, sf_winp (ics_plain L) rfl get_zero_app, trivial⟩ rfl) rfl rfl (congrArg (fun x => [qv 1 l.length c2, .slice (some ⟨2, 0, none⟩) L.length cL, .int .i64 x]) hw) rfl ⟨_, _, rfl, rfl⟩ ?_
          rintro _ _ ⟨rfl, rfl⟩
          refine run_end (z := false) fun K' hK' => hK' _ _ _ (hK _ _ _ ?_)
          clear hK' K' hK K
          refine vc_seq ?_
          refine vc_seq ?_
          refine vc_reg (by kernel_rfl) fun K hK => ?_
          refine run_n (z := false) 4 (fun K' hK' => hK' _ _ _ ?_) (by decide)
          clear hK' K'
          refine vgo_known 83 (b := false) (bb (by simp)) ?_
          refine run_n (z := false) 3 (fun K' hK' => hK' _ _ _ ?_) (by decide)
          clear hK' K'
          refine vgo_known 86 (b := false) (bb (by simpa using he)) ?_
          refine run_end (z := false) fun K' hK' => hK' _ _ _ (hK _ _ _ ?_)
          clear hK' K' hK K
          refine vc_cond (t := false) rfl (fun h => by cases h) (fun _ => ?_)
          refine vc_skip ?_
          refine vc_seq ?_
          refine vc_seq ?_
          refine vc_go (by kernel_rfl) fun K hK => hK _ _ _ ?_
          clear hK K
          refine vc_block ?_
          refine vc_loopF (fun n s => ∃ (j : Nat), n = l1.length - j ∧ j ≤ l1.length ∧ s = can [(6, .bool false), (7, .pointer (some ⟨0, 0, none⟩)), (8, .slice (some ⟨2, 0, none⟩) L.length cL), (9, .int .i64 ((A : Nat) : Int)), (94, .slice (some ⟨3, 0, none⟩) l1.length c3), (95, .int .i64 (l1.length : Int)), (96, .int .i64 ((j : Nat) : Int))] [(0, .cells [.slice (some ⟨1, 0, none⟩) l.length c2] 55 true), (1, .cells (rws rc l) 67 false), (2, .cells (rws ic L ++ spL) 3 true), (3, .cells (rws rc l1 ++ sp3) 67 true)] 4) l1.length ?_ ?_
          · exact ⟨_, fg_ren (fun k => if k = 3 then 6 else k) [(6, .bool false), (7, .pointer (some ⟨0, 0, none⟩)), (8, .slice (some ⟨2, 0, none⟩) L.length cL), (9, .int .i64 ((A : Nat) : Int)), (94, .slice (some ⟨3, 0, none⟩) l1.length c3), (95, .int .i64 (l1.length : Int)), (96, .int .i64 ((0 : Nat) : Int))] [(0, .cells [.slice (some ⟨1, 0, none⟩) l.length c2] 55 true), (1, .cells (rws rc l) 67 false), (2, .cells (rws ic L ++ spL) 3 true), (3, .cells (rws rc l1 ++ sp3) 67 true)] 4 (by decide) (fun m hm => absurd hm (Nat.not_lt_zero m)) ⟨rfl, rfl, rfl, rfl, rfl, rfl, rfl, trivial⟩ ⟨sf_own rfl rfl, sf_winp (rcs_plain l) rfl get_zero, sf_ownp (plainL_append (ics_plain _) hpL) rfl rfl, sf_ownp (plainL_append (rcs_plain _) hp3) rfl rfl, trivial⟩ rfl (bdH_b (by decide) rfl (bdH_c (by decide) (rcs_plain l) (bdH_c (by decide) (plainL_append (ics_plain _) hpL) (bdH_c (by decide) (plainL_append (rcs_plain _) hp3) rfl)))) rfl, 0, rfl, Nat.zero_le _, rfl⟩
          · rintro n s ⟨j, hn, hj, rfl⟩
            refine vc_seq ?_
            refine vc_go (by kernel_rfl) fun K hK => hK _ _ _ ?_
            clear hK K
            refine vc_seq ?_
            refine vc_cond rfl (fun c0 => ?_) (fun c0 => ?_)
            · -- cond 18 t97 true
              refine vc_skip ?_
              refine vc_seq ?_
              refine vc_block ?_
              refine vc_seq ?_
              have hlt := len_le c0
              obtain ⟨r, hr⟩ : ∃ r, l1[j]? = some r := ⟨l1[j], List.getElem?_eq_getElem hlt⟩
              obtain ⟨was, hg, _, hid, hokw, hrun⟩ := (run_one hq (by omega) h1).2 j r (by rw [← hl1e]; exact hr)
              have h43 := p43 l c2 r.id (by omega)
              rw [hg] at h43
              have hrt : rt was.n was.w = true := okR_rt hokw
              refine vc_reg (by kernel_rfl) fun K hK => ?_
              refine run_op (vex_ixs (j := j) rfl rfl rfl hlt rfl rfl) rfl ?_
              refine run_rd (vex_ldr rc_len (j := 0) (i := j) (d := rc r) rfl (Nat.zero_add _) rfl (rfl) rfl hr (by decide) rfl) rfl ?_
              refine run_end (z := false) fun K' hK' => hK' _ _ _ (hK _ _ _ ?_)
              clear hK' K' hK K
              refine vc_seq ?_
              refine vc_reg (by kernel_rfl) fun K hK => ?_
              refine run_n (z := false) 3 (fun K' hK' => hK' _ _ _ ?_) (by decide)
              clear hK' K'
              refine run_ro (fun _ => (1, 0)) (h43) ?_ rfl rfl rfl rfl ?_
              · intro x hx
                simp only [List.mem_singleton] at hx
                subst hx
                exact ⟨_, _, _, rfl, fun i v hv => by rw [Nat.zero_add]; exact hv⟩
              refine run_end (z := false) fun K' hK' => hK' _ _ _ (hK _ _ _ ?_)
              clear hK' K' hK K
              refine vc_seq ?_
              refine vc_seq ?_
              refine vc_go (by kernel_rfl) fun K hK => hK _ _ _ ?_
              clear hK K
              refine vc_cond (t := false) rfl (fun h => by cases h) (fun _ => ?_)
              refine vc_skip ?_
              refine vc_seq ?_
              refine vc_go (by kernel_rfl) fun K hK => hK _ _ _ ?_
              clear hK K
              refine vc_seq ?_
              refine vc_seq ?_
              refine vc_go (by kernel_rfl) fun K hK => hK _ _ _ ?_
              clear hK K
              refine vc_block ?_
              refine vc_loopF (fun n s => ∃ (i : Nat) (runs : Bool), n = L.length - i ∧ i ≤ L.length ∧ runs = (L.take i).any (fun t => t == r.id) ∧ s = can [(6, .bool false), (7, .pointer (some ⟨0, 0, none⟩)), (8, .slice (some ⟨2, 0, none⟩) L.length cL), (9, .int .i64 ((A : Nat) : Int)), (94, .slice (some ⟨3, 0, none⟩) l1.length c3), (95, .int .i64 (l1.length : Int)), (96, .int .i64 ((j : Nat) : Int)), (17, .pointer (some ⟨4, 0, none⟩)), (18, .pointer (some ⟨5, 0, none⟩)), (20, .bool runs), (109, .slice (some ⟨2, 0, none⟩) L.length cL), (110, .int .i64 (L.length : Int)), (111, .int .i64 ((i : Nat) : Int))] [(0, .cells [.slice (some ⟨1, 0, none⟩) l.length c2] 55 true), (1, .cells (rws rc l) 67 false), (2, .cells (rws ic L ++ spL) 3 true), (3, .cells (rws rc l1 ++ sp3) 67 true), (4, .cells (rc r) 67 true), (5, .cells (rc was) 67 true)] 6) L.length ?_ ?_
              · exact ⟨_, fg_ren (fun k => if k = 4 then 6 else if k = 5 then 14 else k) [(6, .bool false), (7, .pointer (some ⟨0, 0, none⟩)), (8, .slice (some ⟨2, 0, none⟩) L.length cL), (9, .int .i64 ((A : Nat) : Int)), (94, .slice (some ⟨3, 0, none⟩) l1.length c3), (95, .int .i64 (l1.length : Int)), (96, .int .i64 ((j : Nat) : Int)), (17, .pointer (some ⟨4, 0, none⟩)), (18, .pointer (some ⟨5, 0, none⟩)), (20, .bool false), (109, .slice (some ⟨2, 0, none⟩) L.length cL), (110, .int .i64 (L.length : Int)), (111, .int .i64 ((0 : Nat) : Int))] [(0, .cells [.slice (some ⟨1, 0, none⟩) l.length c2] 55 true), (1, .cells (rws rc l) 67 false), (2, .cells (rws ic L ++ spL) 3 true), (3, .cells (rws rc l1 ++ sp3) 67 true), (4, .cells (rc r) 67 true), (5, .cells (rc was) 67 true)] 6 (by decide) (fun m hm => absurd hm (Nat.not_lt_zero m)) ⟨rfl, rfl, rfl, rfl, rfl, rfl, rfl, rfl, rfl, rfl, rfl, rfl, rfl, trivial⟩ ⟨sf_own rfl rfl, sf_winp (rcs_plain l) rfl get_zero, sf_ownp (plainL_append (ics_plain _) hpL) rfl rfl, sf_ownp (plainL_append (rcs_plain _) hp3) rfl rfl, sf_ownp (rc_plain r) rfl rfl, sf_ownp (rc_plain was) rfl rfl, trivial⟩ rfl (bdH_b (by decide) rfl (bdH_c (by decide) (rcs_plain l) (bdH_c (by decide) (plainL_append (ics_plain _) hpL) (bdH_c (by decide) (plainL_append (rcs_plain _) hp3) (bdH_c (by decide) (rc_plain r) (bdH_c (by decide) (rc_plain was) rfl)))))) rfl, 0, false, rfl, Nat.zero_le _, rfl, rfl⟩
              · rintro n s ⟨i, runs, hn2, hi, hruns, rfl⟩
                refine vc_seq ?_
                refine vc_go (by kernel_rfl) fun K hK => hK _ _ _ ?_
                clear hK K
                refine vc_seq ?_
                refine vc_cond rfl (fun c1 => ?_) (fun c1 => ?_)
                · -- cond 20 t112 true
                  refine vc_skip ?_
                  refine vc_seq ?_
                  refine vc_block ?_
                  refine vc_seq ?_
                  have hlt2 := len_le c1
                  obtain ⟨x, hx⟩ : ∃ x, L[i]? = some x := ⟨L[i], List.getElem?_eq_getElem hlt2⟩
                  refine vc_reg (by kernel_rfl) fun K hK => ?_
                  refine run_op (vex_ixs (j := i) rfl rfl rfl hlt2 rfl rfl) rfl ?_
                  refine run_rd (vex_ldc ic_len (j := 0) (i := i) rfl (Nat.zero_add _) rfl rfl rfl hx (by decide) rfl) rfl ?_
                  refine run_end (z := false) fun K' hK' => hK' _ _ _ (hK _ _ _ ?_)
                  clear hK' K' hK K
                  cases runs
                  · skip
                    refine vc_reg (by kernel_rfl) fun K hK => ?_
                    refine run_n (z := false) 2 (fun K' hK' => hK' _ _ _ ?_) (by decide)
                    clear hK' K'
                    refine vgo_known 116 (b := false) (rfl) ?_
                    refine run_end (z := false) fun K' hK' => hK' _ _ _ (hK _ _ _ ?_)
                    clear hK' K' hK K
                    refine vc_go (by kernel_rfl) fun K hK => hK _ _ _ ?_
                    clear hK K
                    exact ⟨_, fg_focus [(6, .bool false), (7, .pointer (some ⟨0, 0, none⟩)), (8, .slice (some ⟨2, 0, none⟩) L.length cL), (9, .int .i64 ((A : Nat) : Int)), (94, .slice (some ⟨3, 0, none⟩) l1.length c3), (95, .int .i64 (l1.length : Int)), (96, .int .i64 ((j : Nat) : Int)), (17, .pointer (some ⟨4, 0, none⟩)), (18, .pointer (some ⟨5, 0, none⟩)), (20, .bool (x == r.id)), (109, .slice (some ⟨2, 0, none⟩) L.length cL), (110, .int .i64 (L.length : Int)), (111, .int .i64 ((i + 1 : Nat) : Int))] [(0, .cells [.slice (some ⟨1, 0, none⟩) l.length c2] 55 true), (1, .cells (rws rc l) 67 false), (2, .cells (rws ic L ++ spL) 3 true), (3, .cells (rws rc l1 ++ sp3) 67 true), (4, .cells (rc r) 67 true), (5, .cells (rc was) 67 true)] 6 (by decide) ⟨rfl, rfl, rfl, rfl, rfl, rfl, rfl, rfl, rfl, rfl, rfl, rfl, ii (wrapI (by omega) (by omega)), trivial⟩ ⟨sb rfl, sb rfl, sb rfl, sb rfl, sb rfl, sb rfl, trivial⟩ rfl (bdH_b (by decide) rfl (bdH_c (by decide) (rcs_plain l) (bdH_c (by decide) (plainL_append (ics_plain _) hpL) (bdH_c (by decide) (plainL_append (rcs_plain _) hp3) (bdH_c (by decide) (rc_plain r) (bdH_c (by decide) (rc_plain was) rfl)))))), L.length - (i + 1), by omega, i + 1, (x == r.id), rfl, hlt2, by rw [List.take_add_one, hx]; simp [List.any_append, ← hruns], rfl⟩
                  · skip
                    refine vc_reg (by kernel_rfl) fun K hK => ?_
                    refine run_n (z := false) 2 (fun K' hK' => hK' _ _ _ ?_) (by decide)
                    clear hK' K'
                    refine vgo_known 116 (b := true) (rfl) ?_
                    refine run_end (z := false) fun K' hK' => hK' _ _ _ (hK _ _ _ ?_)
                    clear hK' K' hK K
                    refine vc_go (by kernel_rfl) fun K hK => hK _ _ _ ?_
                    clear hK K
                    exact ⟨_, fg_focus [(6, .bool false), (7, .pointer (some ⟨0, 0, none⟩)), (8, .slice (some ⟨2, 0, none⟩) L.length cL), (9, .int .i64 ((A : Nat) : Int)), (94, .slice (some ⟨3, 0, none⟩) l1.length c3), (95, .int .i64 (l1.length : Int)), (96, .int .i64 ((j : Nat) : Int)), (17, .pointer (some ⟨4, 0, none⟩)), (18, .pointer (some ⟨5, 0, none⟩)), (20, .bool true), (109, .slice (some ⟨2, 0, none⟩) L.length cL), (110, .int .i64 (L.length : Int)), (111, .int .i64 ((i + 1 : Nat) : Int))] [(0, .cells [.slice (some ⟨1, 0, none⟩) l.length c2] 55 true), (1, .cells (rws rc l) 67 false), (2, .cells (rws ic L ++ spL) 3 true), (3, .cells (rws rc l1 ++ sp3) 67 true), (4, .cells (rc r) 67 true), (5, .cells (rc was) 67 true)] 6 (by decide) ⟨rfl, rfl, rfl, rfl, rfl, rfl, rfl, rfl, rfl, rfl, rfl, rfl, ii (wrapI (by omega) (by omega)), trivial⟩ ⟨sb rfl, sb rfl, sb rfl, sb rfl, sb rfl, sb rfl, trivial⟩ rfl (bdH_b (by decide) rfl (bdH_c (by decide) (rcs_plain l) (bdH_c (by decide) (plainL_append (ics_plain _) hpL) (bdH_c (by decide) (plainL_append (rcs_plain _) hp3) (bdH_c (by decide) (rc_plain r) (bdH_c (by decide) (rc_plain was) rfl)))))), L.length - (i + 1), by omega, i + 1, true, rfl, hlt2, by rw [List.take_add_one, hx]; simp [List.any_append, ← hruns], rfl⟩
                · -- cond 20 t112 false
                  refine vc_exit ?_
                  refine vc_seq ?_
                  have hge := len_ge c1
                  obtain rfl : i = L.length := by omega
                  rw [List.take_length] at hruns
                  by_cases hmem : r.id ∈ L
                  · have hr1 : runs = true := by rw [hruns]; exact List.any_eq_true.2 ⟨r.id, hmem, by simp⟩
                    clear hruns
                    subst hr1
                    rw [if_pos hmem] at hrun
                    obtain ⟨hs, hrun⟩ := hrun
                    have h63 := p63y hrt (kR_lt A was) hs
                    refine vc_reg (by kernel_rfl) fun K hK => ?_
                    refine run_n (z := false) 8 (fun K' hK' => hK' _ _ _ ?_) (by decide)
                    clear hK' K'
                    refine run_call h63 rfl (congrArg (fun x => [fr was.n was.w, .int .u64 x]) (kR_raw (by omega) was)) rfl rfl ?_
                    refine run_end (z := false) fun K' hK' => hK' _ _ _ (hK _ _ _ ?_)
                    clear hK' K' hK K
                    refine vc_seq ?_
                    refine vc_reg (by kernel_rfl) fun K hK => ?_
                    refine run_n (z := false) 2 (fun K' hK' => hK' _ _ _ ?_) (by decide)
                    clear hK' K'
                    refine vgo_known 136 (b := true) (rfl) ?_
                    refine run_n (z := false) 3 (fun K' hK' => hK' _ _ _ ?_) (by decide)
                    clear hK' K'
                    refine vgo_known 139 (b := false) (bb (by simp)) ?_
                    refine run_n (z := false) 7 (fun K' hK' => hK' _ _ _ ?_) (by decide)
                    clear hK' K'
                    refine vgo_known 146 (b := false) (bb (by rw [hrun]; exact fr_neq _ _)) ?_
                    refine run_n (z := false) 3 (fun K' hK' => hK' _ _ _ ?_) (by decide)
                    clear hK' K'
                    refine vgo_known 149 (b := false) (rfl) ?_
                    refine run_end (z := false) fun K' hK' => hK' _ _ _ (hK _ _ _ ?_)
                    clear hK' K' hK K
                    refine vc_cond (t := false) rfl (fun h => by cases h) (fun _ => ?_)
                    refine vc_skip ?_
                    refine vc_go (by kernel_rfl) fun K hK => hK _ _ _ ?_
                    clear hK K
                    exact ⟨_, fg_focus [(6, .bool false), (7, .pointer (some ⟨0, 0, none⟩)), (8, .slice (some ⟨2, 0, none⟩) L.length cL), (9, .int .i64 ((A : Nat) : Int)), (94, .slice (some ⟨3, 0, none⟩) l1.length c3), (95, .int .i64 (l1.length : Int)), (96, .int .i64 ((j + 1 : Nat) : Int))] [(0, .cells [.slice (some ⟨1, 0, none⟩) l.length c2] 55 true), (1, .cells (rws rc l) 67 false), (2, .cells (rws ic L ++ spL) 3 true), (3, .cells (rws rc l1 ++ sp3) 67 true)] 4 (by decide) ⟨rfl, rfl, rfl, rfl, rfl, rfl, ii (wrapI (by omega) (by omega)), trivial⟩ ⟨sb rfl, sb rfl, sb rfl, sb rfl, trivial⟩ rfl (bdH_b (by decide) rfl (bdH_c (by decide) (rcs_plain l) (bdH_c (by decide) (plainL_append (ics_plain _) hpL) (bdH_c (by decide) (plainL_append (rcs_plain _) hp3) rfl)))), l1.length - (j + 1), by omega, j + 1, rfl, hlt, rfl⟩
                  · have hr1 : runs = false := by
                      rw [hruns]
                      rw [List.any_eq_false]
                      intro t ht e
                      exact hmem (by rw [← beq_iff_eq.1 e]; exact ht)
                    clear hruns
                    subst hr1
                    rw [if_neg hmem] at hrun
                    obtain ⟨n9, w9, e9, h63⟩ : ∃ (n9 w9 : Nat) (e9 : Int), Pure 63 [fr was.n was.w, u64 (kR A was)] (.tuple #[fr n9 w9, .int .i64 e9]) := by
                      by_cases hs : was.n + kR A was < 2 ^ 100
                      · exact ⟨_, _, _, p63y hrt (kR_lt A was) hs⟩
                      · exact ⟨_, _, _, p63r hrt (kR_lt A was) hs⟩
                    refine vc_reg (by kernel_rfl) fun K hK => ?_
                    refine run_n (z := false) 8 (fun K' hK' => hK' _ _ _ ?_) (by decide)
                    clear hK' K'
                    refine run_call h63 rfl (congrArg (fun x => [fr was.n was.w, .int .u64 x]) (kR_raw (by omega) was)) rfl rfl ?_
                    refine run_end (z := false) fun K' hK' => hK' _ _ _ (hK _ _ _ ?_)
                    clear hK' K' hK K
                    refine vc_seq ?_
                    refine vc_reg (by kernel_rfl) fun K hK => ?_
                    refine run_n (z := false) 2 (fun K' hK' => hK' _ _ _ ?_) (by decide)
                    clear hK' K'
                    refine vgo_known 136 (b := false) (rfl) ?_
                    refine run_n (z := false) 10 (fun K' hK' => hK' _ _ _ ?_) (by decide)
                    clear hK' K'
                    refine vgo_known 146 (b := false) (rfl) ?_
                    refine run_n (z := false) 3 (fun K' hK' => hK' _ _ _ ?_) (by decide)
                    clear hK' K'
                    refine vgo_known 149 (b := true) (rfl) ?_
                    refine run_end (z := false) fun K' hK' => hK' _ _ _ (hK _ _ _ ?_)
                    clear hK' K' hK K
                    refine vc_cond (t := false) (bb (by rw [rn_beq]; first | (rw [decide_eq_true (show r = (some was).getD z0 from hrun)]; rfl) | (rw [decide_eq_true hrun]; rfl))) (fun h => by cases h) (fun _ => ?_)
                    refine vc_skip ?_
                    refine vc_go (by kernel_rfl) fun K hK => hK _ _ _ ?_
                    clear hK K
                    exact ⟨_, fg_focus [(6, .bool false), (7, .pointer (some ⟨0, 0, none⟩)), (8, .slice (some ⟨2, 0, none⟩) L.length cL), (9, .int .i64 ((A : Nat) : Int)), (94, .slice (some ⟨3, 0, none⟩) l1.length c3), (95, .int .i64 (l1.length : Int)), (96, .int .i64 ((j + 1 : Nat) : Int))] [(0, .cells [.slice (some ⟨1, 0, none⟩) l.length c2] 55 true), (1, .cells (rws rc l) 67 false), (2, .cells (rws ic L ++ spL) 3 true), (3, .cells (rws rc l1 ++ sp3) 67 true)] 4 (by decide) ⟨rfl, rfl, rfl, rfl, rfl, rfl, ii (wrapI (by omega) (by omega)), trivial⟩ ⟨sb rfl, sb rfl, sb rfl, sb rfl, trivial⟩ rfl (bdH_b (by decide) rfl (bdH_c (by decide) (rcs_plain l) (bdH_c (by decide) (plainL_append (ics_plain _) hpL) (bdH_c (by decide) (plainL_append (rcs_plain _) hp3) rfl)))), l1.length - (j + 1), by omega, j + 1, rfl, hlt, rfl⟩
            · -- cond 18 t97 false
              refine vc_exit ?_
              refine vc_seq ?_
              refine vc_go (by kernel_rfl) fun K hK => hK _ _ _ ?_
              clear hK K
              exact vc_ret ⟨.inr rfl, rfl⟩
        · skip
          refine vc_reg (by kernel_rfl) fun K hK => ?_
          refine run_n (z := false) 3 (fun K' hK' => hK' _ _ _ ?_) (by decide)
          clear hK' K'
          refine run_fc (fun k => if k = 0 then (6, 0) else (2, 0)) (h70a c3) (hasF ⟨sf_winp (rcs_plain _) rfl get_zero_app, sf_winp (ics_plain L) rfl get_zero_app, trivial⟩ rfl) rfl rfl rfl rfl ⟨_, _, 0, [], rfl, rfl, rfl⟩ ?_
          rintro _ _ ⟨c4, sp4, hp4, rfl, rfl⟩
          rw [renU_c (renB_p (plainL_append (rcs_plain _) hp4)) renU_nil]
          refine run_end (z := false) fun K' hK' => hK' _ _ _ (hK _ _ _ ?_)
          clear hK' K' hK K
          refine vc_seq ?_
          refine vc_reg (by kernel_rfl) fun K hK => ?_
          refine run_n (z := false) 5 (fun K' hK' => hK' _ _ _ ?_) (by decide)
          clear hK' K'
          refine run_fc (fun k => if k = 0 then (1, 0) else (2, 0)) h70b (hasF ⟨sf_winp (rcs_plain _) rfl get_zero, sf_winp (ics_plain L) rfl get_zero_app, trivial⟩ rfl) rfl rfl (congrArg (fun x => [qv 1 l.length c2, .slice (some ⟨2, 0, none⟩) L.length cL, .int .i64 x]) hw) rfl ⟨_, _, 0, [], rfl, rfl, rfl⟩ ?_
          rintro _ _ ⟨c5, sp5, hp5, rfl, rfl⟩
          rw [renU_c (renB_p (plainL_append (rcs_plain _) hp5)) renU_nil]
          refine run_end (z := false) fun K' hK' => hK' _ _ _ (hK _ _ _ ?_)
          clear hK' K' hK K
          refine vc_seq ?_
          refine vc_seq ?_
          refine vc_reg (by kernel_rfl) fun K hK => ?_
          refine run_n (z := false) 4 (fun K' hK' => hK' _ _ _ ?_) (by decide)
          clear hK' K'
          refine vgo_known 83 (b := false) (bb (by simp)) ?_
          refine run_n (z := false) 3 (fun K' hK' => hK' _ _ _ ?_) (by decide)
          clear hK' K'
          refine vgo_known 86 (b := true) (rfl) ?_
          refine run_n (z := false) 2 (fun K' hK' => hK' _ _ _ ?_) (by decide)
          clear hK' K'
          refine run_ro (fun k => if k = 0 then (14, 0) else (24, 0)) (same_ro l2 c4 c5 (by omega)) ?_ rfl rfl rfl rfl ?_
          · intro x hx
            simp only [List.mem_cons, List.mem_singleton, List.not_mem_nil, or_false] at hx
            rcases hx with rfl | rfl
            · exact ⟨_, _, _, rfl, get_zero_app⟩
            · exact ⟨_, _, _, rfl, get_zero_app⟩
          refine run_end (z := false) fun K' hK' => hK' _ _ _ (hK _ _ _ ?_)
          clear hK' K' hK K
          refine vc_cond (t := false) rfl (fun h => by cases h) (fun _ => ?_)
          refine vc_skip ?_
          refine vc_seq ?_
          refine vc_seq ?_
          refine vc_go (by kernel_rfl) fun K hK => hK _ _ _ ?_
          clear hK K
          refine vc_block ?_
          refine vc_loopF (fun n s => ∃ (j : Nat), n = l1.length - j ∧ j ≤ l1.length ∧ s = can [(6, .bool false), (7, .pointer (some ⟨0, 0, none⟩)), (8, .slice (some ⟨2, 0, none⟩) L.length cL), (9, .int .i64 ((A : Nat) : Int)), (94, .slice (some ⟨3, 0, none⟩) l1.length c3), (95, .int .i64 (l1.length : Int)), (96, .int .i64 ((j : Nat) : Int))] [(0, .cells [.slice (some ⟨1, 0, none⟩) l.length c2] 55 true), (1, .cells (rws rc l) 67 false), (2, .cells (rws ic L ++ spL) 3 true), (3, .cells (rws rc l1 ++ sp3) 67 true)] 4) l1.length ?_ ?_
          · exact ⟨_, fg_ren (fun k => if k = 3 then 6 else k) [(6, .bool false), (7, .pointer (some ⟨0, 0, none⟩)), (8, .slice (some ⟨2, 0, none⟩) L.length cL), (9, .int .i64 ((A : Nat) : Int)), (94, .slice (some ⟨3, 0, none⟩) l1.length c3), (95, .int .i64 (l1.length : Int)), (96, .int .i64 ((0 : Nat) : Int))] [(0, .cells [.slice (some ⟨1, 0, none⟩) l.length c2] 55 true), (1, .cells (rws rc l) 67 false), (2, .cells (rws ic L ++ spL) 3 true), (3, .cells (rws rc l1 ++ sp3) 67 true)] 4 (by decide) (fun m hm => absurd hm (Nat.not_lt_zero m)) ⟨rfl, rfl, rfl, rfl, rfl, rfl, rfl, trivial⟩ ⟨sf_own rfl rfl, sf_winp (rcs_plain l) rfl get_zero, sf_ownp (plainL_append (ics_plain _) hpL) rfl rfl, sf_ownp (plainL_append (rcs_plain _) hp3) rfl rfl, trivial⟩ rfl (bdH_b (by decide) rfl (bdH_c (by decide) (rcs_plain l) (bdH_c (by decide) (plainL_append (ics_plain _) hpL) (bdH_c (by decide) (plainL_append (rcs_plain _) hp3) rfl)))) rfl, 0, rfl, Nat.zero_le _, rfl⟩
          · rintro n s ⟨j, hn, hj, rfl⟩
            refine vc_seq ?_
            refine vc_go (by kernel_rfl) fun K hK => hK _ _ _ ?_
            clear hK K
            refine vc_seq ?_
            refine vc_cond rfl (fun c0 => ?_) (fun c0 => ?_)
            · -- cond 24 t97 true
              refine vc_skip ?_
              refine vc_seq ?_
              refine vc_block ?_
              refine vc_seq ?_
              have hlt := len_le c0
              obtain ⟨r, hr⟩ : ∃ r, l1[j]? = some r := ⟨l1[j], List.getElem?_eq_getElem hlt⟩
              obtain ⟨was, hg, _, hid, hokw, hrun⟩ := (run_one hq (by omega) h1).2 j r (by rw [← hl1e]; exact hr)
              have h43 := p43 l c2 r.id (by omega)
              rw [hg] at h43
              have hrt : rt was.n was.w = true := okR_rt hokw
              refine vc_reg (by kernel_rfl) fun K hK => ?_
              refine run_op (vex_ixs (j := j) rfl rfl rfl hlt rfl rfl) rfl ?_
              refine run_rd (vex_ldr rc_len (j := 0) (i := j) (d := rc r) rfl (Nat.zero_add _) rfl (rfl) rfl hr (by decide) rfl) rfl ?_
              refine run_end (z := false) fun K' hK' => hK' _ _ _ (hK _ _ _ ?_)
              clear hK' K' hK K
              refine vc_seq ?_
              refine vc_reg (by kernel_rfl) fun K hK => ?_
              refine run_n (z := false) 3 (fun K' hK' => hK' _ _ _ ?_) (by decide)
              clear hK' K'
              refine run_ro (fun _ => (1, 0)) (h43) ?_ rfl rfl rfl rfl ?_
              · intro x hx
                simp only [List.mem_singleton] at hx
                subst hx
                exact ⟨_, _, _, rfl, fun i v hv => by rw [Nat.zero_add]; exact hv⟩
              refine run_end (z := false) fun K' hK' => hK' _ _ _ (hK _ _ _ ?_)
              clear hK' K' hK K
              refine vc_seq ?_
              refine vc_seq ?_
              refine vc_go (by kernel_rfl) fun K hK => hK _ _ _ ?_
              clear hK K
              refine vc_cond (t := false) rfl (fun h => by cases h) (fun _ => ?_)
              refine vc_skip ?_
              refine vc_seq ?_
              refine vc_go (by kernel_rfl) fun K hK => hK _ _ _ ?_
              clear hK K
              refine vc_seq ?_
              refine vc_seq ?_
              refine vc_go (by kernel_rfl) fun K hK => hK _ _ _ ?_
              clear hK K
              refine vc_block ?_
              refine vc_loopF (fun n s => ∃ (i : Nat) (runs : Bool), n = L.length - i ∧ i ≤ L.length ∧ runs = (L.take i).any (fun t => t == r.id) ∧ s = can [(6, .bool false), (7, .pointer (some ⟨0, 0, none⟩)), (8, .slice (some ⟨2, 0, none⟩) L.length cL), (9, .int .i64 ((A : Nat) : Int)), (94, .slice (some ⟨3, 0, none⟩) l1.length c3), (95, .int .i64 (l1.length : Int)), (96, .int .i64 ((j : Nat) : Int)), (17, .pointer (some ⟨4, 0, none⟩)), (18, .pointer (some ⟨5, 0, none⟩)), (20, .bool runs), (109, .slice (some ⟨2, 0, none⟩) L.length cL), (110, .int .i64 (L.length : Int)), (111, .int .i64 ((i : Nat) : Int))] [(0, .cells [.slice (some ⟨1, 0, none⟩) l.length c2] 55 true), (1, .cells (rws rc l) 67 false), (2, .cells (rws ic L ++ spL) 3 true), (3, .cells (rws rc l1 ++ sp3) 67 true), (4, .cells (rc r) 67 true), (5, .cells (rc was) 67 true)] 6) L.length ?_ ?_
              · exact ⟨_, fg_ren (fun k => if k = 4 then 6 else if k = 5 then 14 else k) [(6, .bool false), (7, .pointer (some ⟨0, 0, none⟩)), (8, .slice (some ⟨2, 0, none⟩) L.length cL), (9, .int .i64 ((A : Nat) : Int)), (94, .slice (some ⟨3, 0, none⟩) l1.length c3), (95, .int .i64 (l1.length : Int)), (96, .int .i64 ((j : Nat) : Int)), (17, .pointer (some ⟨4, 0, none⟩)), (18, .pointer (some ⟨5, 0, none⟩)), (20, .bool false), (109, .slice (some ⟨2, 0, none⟩) L.length cL), (110, .int .i64 (L.length : Int)), (111, .int .i64 ((0 : Nat) : Int))] [(0, .cells [.slice (some ⟨1, 0, none⟩) l.length c2] 55 true), (1, .cells (rws rc l) 67 false), (2, .cells (rws ic L ++ spL) 3 true), (3, .cells (rws rc l1 ++ sp3) 67 true), (4, .cells (rc r) 67 true), (5, .cells (rc was) 67 true)] 6 (by decide) (fun m hm => absurd hm (Nat.not_lt_zero m)) ⟨rfl, rfl, rfl, rfl, rfl, rfl, rfl, rfl, rfl, rfl, rfl, rfl, rfl, trivial⟩ ⟨sf_own rfl rfl, sf_winp (rcs_plain l) rfl get_zero, sf_ownp (plainL_append (ics_plain _) hpL) rfl rfl, sf_ownp (plainL_append (rcs_plain _) hp3) rfl rfl, sf_ownp (rc_plain r) rfl rfl, sf_ownp (rc_plain was) rfl rfl, trivial⟩ rfl (bdH_b (by decide) rfl (bdH_c (by decide) (rcs_plain l) (bdH_c (by decide) (plainL_append (ics_plain _) hpL) (bdH_c (by decide) (plainL_append (rcs_plain _) hp3) (bdH_c (by decide) (rc_plain r) (bdH_c (by decide) (rc_plain was) rfl)))))) rfl, 0, false, rfl, Nat.zero_le _, rfl, rfl⟩
              · rintro n s ⟨i, runs, hn2, hi, hruns, rfl⟩
                refine vc_seq ?_
                refine vc_go (by kernel_rfl) fun K hK => hK _ _ _ ?_
                clear hK K
                refine vc_seq ?_
                refine vc_cond rfl (fun c1 => ?_) (fun c1 => ?_)
                · -- cond 26 t112 true
                  refine vc_skip ?_
                  refine vc_seq ?_
                  refine vc_block ?_
                  refine vc_seq ?_
                  have hlt2 := len_le c1
                  obtain ⟨x, hx⟩ : ∃ x, L[i]? = some x := ⟨L[i], List.getElem?_eq_getElem hlt2⟩
                  refine vc_reg (by kernel_rfl) fun K hK => ?_
                  refine run_op (vex_ixs (j := i) rfl rfl rfl hlt2 rfl rfl) rfl ?_
                  refine run_rd (vex_ldc ic_len (j := 0) (i := i) rfl (Nat.zero_add _) rfl rfl rfl hx (by decide) rfl) rfl ?_
                  refine run_end (z := false) fun K' hK' => hK' _ _ _ (hK _ _ _ ?_)
                  clear hK' K' hK K
                  cases runs
                  · skip
                    refine vc_reg (by kernel_rfl) fun K hK => ?_
                    refine run_n (z := false) 2 (fun K' hK' => hK' _ _ _ ?_) (by decide)
                    clear hK' K'
                    refine vgo_known 116 (b := false) (rfl) ?_
                    refine run_end (z := false) fun K' hK' => hK' _ _ _ (hK _ _ _ ?_)
                    clear hK' K' hK K
                    refine vc_go (by kernel_rfl) fun K hK => hK _ _ _ ?_
                    clear hK K
                    exact ⟨_, fg_focus [(6, .bool false), (7, .pointer (some ⟨0, 0, none⟩)), (8, .slice (some ⟨2, 0, none⟩) L.length cL), (9, .int .i64 ((A : Nat) : Int)), (94, .slice (some ⟨3, 0, none⟩) l1.length c3), (95, .int .i64 (l1.length : Int)), (96, .int .i64 ((j : Nat) : Int)), (17, .pointer (some ⟨4, 0, none⟩)), (18, .pointer (some ⟨5, 0, none⟩)), (20, .bool (x == r.id)), (109, .slice (some ⟨2, 0, none⟩) L.length cL), (110, .int .i64 (L.length : Int)), (111, .int .i64 ((i + 1 : Nat) : Int))] [(0, .cells [.slice (some ⟨1, 0, none⟩) l.length c2] 55 true), (1, .cells (rws rc l) 67 false), (2, .cells (rws ic L ++ spL) 3 true), (3, .cells (rws rc l1 ++ sp3) 67 true), (4, .cells (rc r) 67 true), (5, .cells (rc was) 67 true)] 6 (by decide) ⟨rfl, rfl, rfl, rfl, rfl, rfl, rfl, rfl, rfl, rfl, rfl, rfl, ii (wrapI (by omega) (by omega)), trivial⟩ ⟨sb rfl, sb rfl, sb rfl, sb rfl, sb rfl, sb rfl, trivial⟩ rfl (bdH_b (by decide) rfl (bdH_c (by decide) (rcs_plain l) (bdH_c (by decide) (plainL_append (ics_plain _) hpL) (bdH_c (by decide) (plainL_append (rcs_plain _) hp3) (bdH_c (by decide) (rc_plain r) (bdH_c (by decide) (rc_plain was) rfl)))))), L.length - (i + 1), by omega, i + 1, (x == r.id), rfl, hlt2, by rw [List.take_add_one, hx]; simp [List.any_append, ← hruns], rfl⟩
                  · skip
                    refine vc_reg (by kernel_rfl) fun K hK => ?_
                    refine run_n (z := false) 2 (fun K' hK' => hK' _ _ _ ?_) (by decide)
                    clear hK' K'
                    refine vgo_known 116 (b := true) (rfl) ?_
                    refine run_end (z := false) fun K' hK' => hK' _ _ _ (hK _ _ _ ?_)
                    clear hK' K' hK K
                    refine vc_go (by kernel_rfl) fun K hK => hK _ _ _ ?_
                    clear hK K
                    exact ⟨_, fg_focus [(6, .bool false), (7, .pointer (some ⟨0, 0, none⟩)), (8, .slice (some ⟨2, 0, none⟩) L.length cL), (9, .int .i64 ((A : Nat) : Int)), (94, .slice (some ⟨3, 0, none⟩) l1.length c3), (95, .int .i64 (l1.length : Int)), (96, .int .i64 ((j : Nat) : Int)), (17, .pointer (some ⟨4, 0, none⟩)), (18, .pointer (some ⟨5, 0, none⟩)), (20, .bool true), (109, .slice (some ⟨2, 0, none⟩) L.length cL), (110, .int .i64 (L.length : Int)), (111, .int .i64 ((i + 1 : Nat) : Int))] [(0, .cells [.slice (some ⟨1, 0, none⟩) l.length c2] 55 true), (1, .cells (rws rc l) 67 false), (2, .cells (rws ic L ++ spL) 3 true), (3, .cells (rws rc l1 ++ sp3) 67 true), (4, .cells (rc r) 67 true), (5, .cells (rc was) 67 true)] 6 (by decide) ⟨rfl, rfl, rfl, rfl, rfl, rfl, rfl, rfl, rfl, rfl, rfl, rfl, ii (wrapI (by omega) (by omega)), trivial⟩ ⟨sb rfl, sb rfl, sb rfl, sb rfl, sb rfl, sb rfl, trivial⟩ rfl (bdH_b (by decide) rfl (bdH_c (by decide) (rcs_plain l) (bdH_c (by decide) (plainL_append (ics_plain _) hpL) (bdH_c (by decide) (plainL_append (rcs_plain _) hp3) (bdH_c (by decide) (rc_plain r) (bdH_c (by decide) (rc_plain was) rfl)))))), L.length - (i + 1), by omega, i + 1, true, rfl, hlt2, by rw [List.take_add_one, hx]; simp [List.any_append, ← hruns], rfl⟩
                · -- cond 26 t112 false
                  refine vc_exit ?_
                  refine vc_seq ?_
                  have hge := len_ge c1
                  obtain rfl : i = L.length := by omega
                  rw [List.take_length] at hruns
                  by_cases hmem : r.id ∈ L
                  · have hr1 : runs = true := by rw [hruns]; exact List.any_eq_true.2 ⟨r.id, hmem, by simp⟩
                    clear hruns
                    subst hr1
                    rw [if_pos hmem] at hrun
                    obtain ⟨hs, hrun⟩ := hrun
                    have h63 := p63y hrt (kR_lt A was) hs
                    refine vc_reg (by kernel_rfl) fun K hK => ?_
                    refine run_n (z := false) 8 (fun K' hK' => hK' _ _ _ ?_) (by decide)
                    clear hK' K'
                    refine run_call h63 rfl (congrArg (fun x => [fr was.n was.w, .int .u64 x]) (kR_raw (by omega) was)) rfl rfl ?_
                    refine run_end (z := false) fun K' hK' => hK' _ _ _ (hK _ _ _ ?_)
                    clear hK' K' hK K
                    refine vc_seq ?_
                    refine vc_reg (by kernel_rfl) fun K hK => ?_
                    refine run_n (z := false) 2 (fun K' hK' => hK' _ _ _ ?_) (by decide)
                    clear hK' K'
                    refine vgo_known 136 (b := true) (rfl) ?_
                    refine run_n (z := false) 3 (fun K' hK' => hK' _ _ _ ?_) (by decide)
                    clear hK' K'
                    refine vgo_known 139 (b := false) (bb (by simp)) ?_
                    refine run_n (z := false) 7 (fun K' hK' => hK' _ _ _ ?_) (by decide)
                    clear hK' K'
                    refine vgo_known 146 (b := false) (bb (by rw [hrun]; exact fr_neq _ _)) ?_
                    refine run_n (z := false) 3 (fun K' hK' => hK' _ _ _ ?_) (by decide)
                    clear hK' K'
                    refine vgo_known 149 (b := false) (rfl) ?_
                    refine run_end (z := false) fun K' hK' => hK' _ _ _ (hK _ _ _ ?_)
                    clear hK' K' hK K
                    refine vc_cond (t := false) rfl (fun h => by cases h) (fun _ => ?_)
                    refine vc_skip ?_
                    refine vc_go (by kernel_rfl) fun K hK => hK _ _ _ ?_
                    clear hK K
                    exact ⟨_, fg_focus [(6, .bool false), (7, .pointer (some ⟨0, 0, none⟩)), (8, .slice (some ⟨2, 0, none⟩) L.length cL), (9, .int .i64 ((A : Nat) : Int)), (94, .slice (some ⟨3, 0, none⟩) l1.length c3), (95, .int .i64 (l1.length : Int)), (96, .int .i64 ((j + 1 : Nat) : Int))] [(0, .cells [.slice (some ⟨1, 0, none⟩) l.length c2] 55 true), (1, .cells (rws rc l) 67 false), (2, .cells (rws ic L ++ spL) 3 true), (3, .cells (rws rc l1 ++ sp3) 67 true)] 4 (by decide) ⟨rfl, rfl, rfl, rfl, rfl, rfl, ii (wrapI (by omega) (by omega)), trivial⟩ ⟨sb rfl, sb rfl, sb rfl, sb rfl, trivial⟩ rfl (bdH_b (by decide) rfl (bdH_c (by decide) (rcs_plain l) (bdH_c (by decide) (plainL_append (ics_plain _) hpL) (bdH_c (by decide) (plainL_append (rcs_plain _) hp3) rfl)))), l1.length - (j + 1), by omega, j + 1, rfl, hlt, rfl⟩
                  · have hr1 : runs = false := by
                      rw [hruns]
                      rw [List.any_eq_false]
                      intro t ht e
                      exact hmem (by rw [← beq_iff_eq.1 e]; exact ht)
                    clear hruns
                    subst hr1
                    rw [if_neg hmem] at hrun
                    obtain ⟨n9, w9, e9, h63⟩ : ∃ (n9 w9 : Nat) (e9 : Int), Pure 63 [fr was.n was.w, u64 (kR A was)] (.tuple #[fr n9 w9, .int .i64 e9]) := by
                      by_cases hs : was.n + kR A was < 2 ^ 100
                      · exact ⟨_, _, _, p63y hrt (kR_lt A was) hs⟩
                      · exact ⟨_, _, _, p63r hrt (kR_lt A was) hs⟩
                    refine vc_reg (by kernel_rfl) fun K hK => ?_
                    refine run_n (z := false) 8 (fun K' hK' => hK' _ _ _ ?_) (by decide)
                    clear hK' K'
                    refine run_call h63 rfl (congrArg (fun x => [fr was.n was.w, .int .u64 x]) (kR_raw (by omega) was)) rfl rfl ?_
                    refine run_end (z := false) fun K' hK' => hK' _ _ _ (hK _ _ _ ?_)
                    clear hK' K' hK K
                    refine vc_seq ?_
                    refine vc_reg (by kernel_rfl) fun K hK => ?_
                    refine run_n (z := false) 2 (fun K' hK' => hK' _ _ _ ?_) (by decide)
                    clear hK' K'
                    refine vgo_known 136 (b := false) (rfl) ?_
                    refine run_n (z := false) 10 (fun K' hK' => hK' _ _ _ ?_) (by decide)
                    clear hK' K'
                    refine vgo_known 146 (b := false) (rfl) ?_
                    refine run_n (z := false) 3 (fun K' hK' => hK' _ _ _ ?_) (by decide)
                    clear hK' K'
                    refine vgo_known 149 (b := true) (rfl) ?_
                    refine run_end (z := false) fun K' hK' => hK' _ _ _ (hK _ _ _ ?_)
                    clear hK' K' hK K
                    refine vc_cond (t := false) (bb (by rw [rn_beq]; first | (rw [decide_eq_true (show r = (some was).getD z0 from hrun)]; rfl) | (rw [decide_eq_true hrun]; rfl))) (fun h => by cases h) (fun _ => ?_)
                    refine vc_skip ?_
                    refine vc_go (by kernel_rfl) fun K hK => hK _ _ _ ?_
                    clear hK K
                    exact ⟨_, fg_focus [(6, .bool false), (7, .pointer (some ⟨0, 0, none⟩)), (8, .slice (some ⟨2, 0, none⟩) L.length cL), (9, .int .i64 ((A : Nat) : Int)), (94, .slice (some ⟨3, 0, none⟩) l1.length c3), (95, .int .i64 (l1.length : Int)), (96, .int .i64 ((j + 1 : Nat) : Int))] [(0, .cells [.slice (some ⟨1, 0, none⟩) l.length c2] 55 true), (1, .cells (rws rc l) 67 false), (2, .cells (rws ic L ++ spL) 3 true), (3, .cells (rws rc l1 ++ sp3) 67 true)] 4 (by decide) ⟨rfl, rfl, rfl, rfl, rfl, rfl, ii (wrapI (by omega) (by omega)), trivial⟩ ⟨sb rfl, sb rfl, sb rfl, sb rfl, trivial⟩ rfl (bdH_b (by decide) rfl (bdH_c (by decide) (rcs_plain l) (bdH_c (by decide) (plainL_append (ics_plain _) hpL) (bdH_c (by decide) (plainL_append (rcs_plain _) hp3) rfl)))), l1.length - (j + 1), by omega, j + 1, rfl, hlt, rfl⟩
            · -- cond 24 t97 false
              refine vc_exit ?_
              refine vc_seq ?_
              refine vc_go (by kernel_rfl) fun K hK => hK _ _ _ ?_
              clear hK K
              exact vc_ret ⟨.inr rfl, rfl⟩
end Go.Proofs.Ytdfkcijholopoaa.Vm
