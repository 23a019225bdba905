/- What the proofs stand on, in one text: Qj. -/
import Derived.Test.YtdfkcijholopoaaMgVtimeTells15
namespace Go.Proofs.Ytdfkcijholopoaa.Vm
open Go Go.RowKit
set_option maxRecDepth 10000
set_option linter.unusedSimpArgs false
set_option linter.unusedVariables false

set_option maxHeartbeats 4000000 in
theorem p19r (n cap rcap m : Nat) (N : Nat → Bool) (Q : Nat → List Rn) (C : Nat → Nat) (R : List Rn) (hm : ∀ i, i < n → i < 9 → i < m) (hm9 : m ≤ 9) (hRl : R.length < 2 ^ 63) (hB : ∀ i, ∀ r ∈ Q i, r.n < 2 ^ 128 ∧ r.w < 2 ^ 64) (hN : ∀ i, N i = true → Q i = [] ∧ C i ≤ 1) (hC : ∀ i, N i = false → (Q i).length ≤ C i) : RC 19 [.slice (some ⟨0, 0, none⟩) n cap, .slice none 0 0] [(0, rws (cq N Q C) (List.range m)), (1, rws rc (Q 0)), (2, rws rc (Q 1)), (3, rws rc (Q 2)), (4, rws rc (Q 3)), (5, rws rc (Q 4)), (6, rws rc (Q 5)), (7, rws rc (Q 6)), (8, rws rc (Q 7)), (9, rws rc (Q 8)), (10, rws rc R)] (.bool true) := by
  refine rc_of _ 11 Try.func19 rfl Try.ntmps19 (by kernel_rfl) (by simp) rfl rfl (by simp) (by
    intro x hx
    simp only [List.mem_cons, List.not_mem_nil, or_false] at hx
    rcases hx with rfl | rfl | rfl | rfl | rfl | rfl | rfl | rfl | rfl | rfl | rfl
    · exact row_bd fun k hk => by have := List.mem_range.1 hk; omega
    all_goals exact bdL_plain _ (rcs_plain _)) ?_
  refine vc_seq ?_
  refine vc_go (by kernel_rfl) fun K hK => hK _ _ _ ?_
  clear hK K
  refine vc_seq ?_
  refine vc_seq ?_
  refine vc_reg (by kernel_rfl) fun K hK => ?_
  refine run_call (p38) rfl rfl rfl rfl ?_
  refine run_end (z := false) fun K' hK' => hK' _ _ _ (hK _ _ _ ?_)
  clear hK' K' hK K
  refine vc_cond (t := false) rfl (fun h => by cases h) (fun _ => ?_)
  refine vc_skip ?_
  refine vc_seq ?_
  refine vc_seq ?_
  refine vc_go (by kernel_rfl) fun K hK => hK _ _ _ ?_
  clear hK K
  refine vc_block ?_
  refine vc_loopF (fun k s => ∃ (i : Nat), k = n - i ∧ i ≤ n ∧ i ≤ 8 ∧ s = can [(0, .slice (some ⟨0, 0, none⟩) n cap), (1, .slice none 0 0), (4, .bool false), (25, .slice (some ⟨0, 0, none⟩) n cap), (26, .int .i64 (n : Int)), (27, .int .i64 ((i : Nat) : Int))] [(0, .cells (rws (cq N Q C) (List.range m)) 0 false), (1, .cells (rws rc (Q 0)) 0 false), (2, .cells (rws rc (Q 1)) 0 false), (3, .cells (rws rc (Q 2)) 0 false), (4, .cells (rws rc (Q 3)) 0 false), (5, .cells (rws rc (Q 4)) 0 false), (6, .cells (rws rc (Q 5)) 0 false), (7, .cells (rws rc (Q 6)) 0 false), (8, .cells (rws rc (Q 7)) 0 false), (9, .cells (rws rc (Q 8)) 0 false), (10, .cells (rws rc R) 0 false)] 11) n ?_ ?_
  · exact ⟨_, fg_focus [(0, .slice (some ⟨0, 0, none⟩) n cap), (1, .slice none 0 0), (4, .bool false), (25, .slice (some ⟨0, 0, none⟩) n cap), (26, .int .i64 (n : Int)), (27, .int .i64 ((0 : Nat) : Int))] [(0, .cells (rws (cq N Q C) (List.range m)) 0 false), (1, .cells (rws rc (Q 0)) 0 false), (2, .cells (rws rc (Q 1)) 0 false), (3, .cells (rws rc (Q 2)) 0 false), (4, .cells (rws rc (Q 3)) 0 false), (5, .cells (rws rc (Q 4)) 0 false), (6, .cells (rws rc (Q 5)) 0 false), (7, .cells (rws rc (Q 6)) 0 false), (8, .cells (rws rc (Q 7)) 0 false), (9, .cells (rws rc (Q 8)) 0 false), (10, .cells (rws rc R) 0 false)] 11 (by decide) ⟨rfl, rfl, rfl, rfl, rfl, rfl, trivial⟩ ⟨sb rfl, sb rfl, sb rfl, sb rfl, sb rfl, sb rfl, sb rfl, sb rfl, sb rfl, sb rfl, sb rfl, trivial⟩ rfl (bdH_b (by decide) (row_bd fun k hk => by have := List.mem_range.1 hk; omega) (bdH_c (by decide) (rcs_plain (Q 0)) (bdH_c (by decide) (rcs_plain (Q 1)) (bdH_c (by decide) (rcs_plain (Q 2)) (bdH_c (by decide) (rcs_plain (Q 3)) (bdH_c (by decide) (rcs_plain (Q 4)) (bdH_c (by decide) (rcs_plain (Q 5)) (bdH_c (by decide) (rcs_plain (Q 6)) (bdH_c (by decide) (rcs_plain (Q 7)) (bdH_c (by decide) (rcs_plain (Q 8)) (bdH_c (by decide) (rcs_plain R) rfl))))))))))), 0, rfl, Nat.zero_le _, by decide, rfl⟩
  · rintro k s ⟨i, hk, hin, hi8, rfl⟩
    refine vc_seq ?_
    refine vc_go (by kernel_rfl) fun K hK => hK _ _ _ ?_
    clear hK K
    refine vc_seq ?_
    refine vc_cond rfl (fun c0 => ?_) (fun c0 => ?_)
    · -- cond 1 t28 true
      refine vc_skip ?_
      refine vc_seq ?_
      refine vc_block ?_
      refine vc_seq ?_
      have hlt : i < n := by have := of_decide_eq_true c0; omega
      have him := hm i hlt (by omega)
      refine vc_reg (by kernel_rfl) fun K hK => ?_
      refine run_n (z := false) 1 (fun K' hK' => hK' _ _ _ ?_) (by decide)
      clear hK' K'
      refine run_op (vex_ixs (j := i) rfl rfl rfl hlt rfl rfl) rfl ?_
      refine run_rd (vex_ldr (cq_len N Q C) (j := 0) (i := i) (d := cq N Q C i) rfl (Nat.zero_add _) rfl (rws_win (cq N Q C) (List.range m)) rfl (range_at him) (by decide) rfl) rfl ?_
      refine run_end (z := false) fun K' hK' => hK' _ _ _ (hK _ _ _ ?_)
      clear hK' K' hK K
      refine vc_seq ?_
      refine vc_seq ?_
      refine vc_go (by kernel_rfl) fun K hK => hK _ _ _ ?_
      clear hK K
      refine vc_cond rfl (fun h8 => ?_) (fun h8 => ?_)
      · -- cond 2 t33 true
        refine vc_exit ?_
        refine vc_seq ?_
        refine vc_seq ?_
        refine vc_go (by kernel_rfl) fun K hK => hK _ _ _ ?_
        clear hK K
        refine vc_block ?_
        refine vc_rounds 1 ?_
        refine vc_seq ?_
        refine vc_go (by kernel_rfl) fun K hK => hK _ _ _ ?_
        clear hK K
        refine vc_seq ?_
        refine vc_cond (t := false) rfl (fun h => by cases h) (fun _ => ?_)
        refine vc_exit ?_
        refine vc_seq ?_
        refine vc_go (by kernel_rfl) fun K hK => hK _ _ _ ?_
        clear hK K
        exact vc_ret ⟨.inr rfl, rfl⟩
      · -- cond 2 t33 false
        refine vc_skip ?_
        refine vc_seq ?_
        refine vc_mid (fun s => ∃ (ca cb : Nat) (sp sp0 : List Value) (q q0 : List Rn), q = (Q i).take 17 ∧ q0 = (Q 0).take 17 ∧ plainL sp = true ∧ plainL sp0 = true ∧ s = can [(0, .slice (some ⟨0, 0, none⟩) n cap), (1, .slice none 0 0), (4, .bool false), (25, .slice (some ⟨0, 0, none⟩) n cap), (26, .int .i64 (n : Int)), (27, .int .i64 ((i : Nat) : Int)), (5, .int .i64 (i : Int)), (6, .pointer (some ⟨14, 0, none⟩)), (7, .pointer (some ⟨21, 0, none⟩)), (8, .pointer (some ⟨22, 0, none⟩))] [(0, .cells (rws (cq N Q C) (List.range m)) 0 false), (1, .cells (rws rc (Q 0)) 0 false), (2, .cells (rws rc (Q 1)) 0 false), (3, .cells (rws rc (Q 2)) 0 false), (4, .cells (rws rc (Q 3)) 0 false), (5, .cells (rws rc (Q 4)) 0 false), (6, .cells (rws rc (Q 5)) 0 false), (7, .cells (rws rc (Q 6)) 0 false), (8, .cells (rws rc (Q 7)) 0 false), (9, .cells (rws rc (Q 8)) 0 false), (10, .cells (rws rc R) 0 false), (14, .cells (cq N Q C i) 55 true), (16, .cells (rws rc q ++ sp) 67 true), (20, .cells (rws rc q0 ++ sp0) 67 true), (21, .cells [.slice (some ⟨16, 0, none⟩) q.length ca] 55 true), (22, .cells [.slice (some ⟨20, 0, none⟩) q0.length cb] 55 true)] 23) ?_ ?_
        · skip
          have h8n : i ≠ 8 := by rintro rfl; simp at h8
          clear h8
          have hi8 : i = 0 ∨ i = 1 ∨ i = 2 ∨ i = 3 ∨ i = 4 ∨ i = 5 ∨ i = 6 ∨ i = 7 := by omega
          rcases hi8 with rfl | rfl | rfl | rfl | rfl | rfl | rfl | rfl
          · have hn0 : 0 < n := by omega
            refine vc_regD [(1, 4), (0, 6), (1, 6), (4, 6), (5, 6), (0, 7), (1, 7), (4, 7), (5, 7), (6, 7)] (by kernel_rfl) (by kernel_rfl) fun K hK => ?_
            refine runD_n (z := false) 1 (fun K' hK' => hK' _ _ _ _ ?_) (by decide)
            clear hK' K'
            refine runD_fc (fun _ => (0 + 1, 0)) (p39u (N 0) (Q 0) (C 0) (hN 0) (hC 0)) (hasF ⟨sf_winp (c1 := rws rc (Q 0)) (t1 := 0) (own := false) (rcs_plain _) rfl get_zero, trivial⟩ rfl) rfl rfl (congrArg (fun x => [Value.agg #[x]]) (idq_ren (N 0) (Q 0) (0 + 1) (C 0)).symm) rfl ⟨_, _, _, Nat.le_refl _, rfl, rfl⟩ (by rintro _ _ ⟨_, _, rfl, rfl⟩; rfl) ?_
            rintro _ _ ⟨ca, hca, rfl, rfl⟩
            rw [renU_c (renB_p (spare_plain _ _)) renU_nil]
            refine runD_n (z := false) 1 (fun K' hK' => hK' _ _ _ _ ?_) (by decide)
            clear hK' K'
            refine runD_op (vex_ixs (j := 0) rfl rfl rfl hn0 rfl rfl) rfl ?_
            refine runD_rd (vex_ldr (cq_len N Q C) (j := 0) (i := 0) (d := cq N Q C 0) rfl (Nat.zero_add _) rfl (rws_win (cq N Q C) (List.range m)) rfl (range_at (hm 0 hn0 (by decide))) (by decide) rfl) rfl rfl ?_
            refine runD_fc (fun _ => (0 + 1, 0)) (p39u (N 0) (Q 0) (C 0) (hN 0) (hC 0)) (hasF ⟨sf_winp (c1 := rws rc (Q 0)) (t1 := 0) (own := false) (rcs_plain _) rfl get_zero, trivial⟩ rfl) rfl rfl (congrArg (fun x => [Value.agg #[x]]) (idq_ren (N 0) (Q 0) (0 + 1) (C 0)).symm) rfl ⟨_, _, _, Nat.le_refl _, rfl, rfl⟩ (by rintro _ _ ⟨_, _, rfl, rfl⟩; rfl) ?_
            rintro _ _ ⟨cb, hcb, rfl, rfl⟩
            rw [renU_c (renB_p (spare_plain _ _)) renU_nil]
            refine runD_end (z := false) fun K' hK' => hK' _ _ _ _ (hK _ _ _ ?_)
            clear hK' K' hK K
            exact ⟨rfl, _, fg_focus [(0, .slice (some ⟨0, 0, none⟩) n cap), (1, .slice none 0 0), (4, .bool false), (25, .slice (some ⟨0, 0, none⟩) n cap), (26, .int .i64 (n : Int)), (27, .int .i64 ((0 : Nat) : Int)), (5, .int .i64 ((0 : Nat) : Int)), (6, .pointer (some ⟨14, 0, none⟩)), (7, .pointer (some ⟨21, 0, none⟩)), (8, .pointer (some ⟨22, 0, none⟩))] [(0, .cells (rws (cq N Q C) (List.range m)) 0 false), (1, .cells (rws rc (Q 0)) 0 false), (2, .cells (rws rc (Q 1)) 0 false), (3, .cells (rws rc (Q 2)) 0 false), (4, .cells (rws rc (Q 3)) 0 false), (5, .cells (rws rc (Q 4)) 0 false), (6, .cells (rws rc (Q 5)) 0 false), (7, .cells (rws rc (Q 6)) 0 false), (8, .cells (rws rc (Q 7)) 0 false), (9, .cells (rws rc (Q 8)) 0 false), (10, .cells (rws rc R) 0 false), (14, .cells (cq N Q C 0) 55 true), (16, .cells (rws rc ((Q 0).take 17) ++ zrow (ca - ((Q 0).take 17).length) z5) 67 true), (20, .cells (rws rc ((Q 0).take 17) ++ zrow (cb - ((Q 0).take 17).length) z5) 67 true), (21, .cells [.slice (some ⟨16, 0, none⟩) ((Q 0).take 17).length ca] 55 true), (22, .cells [.slice (some ⟨20, 0, none⟩) ((Q 0).take 17).length cb] 55 true)] 23 (by decide) ⟨rfl, rfl, rfl, rfl, rfl, rfl, rfl, rfl, rfl, rfl, trivial⟩ ⟨sb rfl, sb rfl, sb rfl, sb rfl, sb rfl, sb rfl, sb rfl, sb rfl, sb rfl, sb rfl, sb rfl, sb rfl, sb rfl, sb rfl, sb rfl, sb rfl, trivial⟩ rfl (bdH_b (by decide) (row_bd fun k hk => by have := List.mem_range.1 hk; omega) (bdH_c (by decide) (rcs_plain (Q 0)) (bdH_c (by decide) (rcs_plain (Q 1)) (bdH_c (by decide) (rcs_plain (Q 2)) (bdH_c (by decide) (rcs_plain (Q 3)) (bdH_c (by decide) (rcs_plain (Q 4)) (bdH_c (by decide) (rcs_plain (Q 5)) (bdH_c (by decide) (rcs_plain (Q 6)) (bdH_c (by decide) (rcs_plain (Q 7)) (bdH_c (by decide) (rcs_plain (Q 8)) (bdH_c (by decide) (rcs_plain R) (bdH_b (by decide) (row_bd (l := [0]) fun k hk => by (have := List.mem_singleton.1 hk); omega) (bdH_c (by decide) (plainL_append (rcs_plain _) (zrow_plain rfl _)) (bdH_c (by decide) (plainL_append (rcs_plain _) (zrow_plain rfl _)) (bdH_b (by decide) rfl (bdH_b (by decide) rfl rfl)))))))))))))))), ca, cb, _, _, _, _, rfl, rfl, zrow_plain rfl _, zrow_plain rfl _, rfl⟩
          · have hn0 : 0 < n := by omega
            refine vc_regD [(1, 4), (0, 6), (1, 6), (4, 6), (5, 6), (0, 7), (1, 7), (4, 7), (5, 7), (6, 7)] (by kernel_rfl) (by kernel_rfl) fun K hK => ?_
            refine runD_n (z := false) 1 (fun K' hK' => hK' _ _ _ _ ?_) (by decide)
            clear hK' K'
            refine runD_fc (fun _ => (1 + 1, 0)) (p39u (N 1) (Q 1) (C 1) (hN 1) (hC 1)) (hasF ⟨sf_winp (c1 := rws rc (Q 1)) (t1 := 0) (own := false) (rcs_plain _) rfl get_zero, trivial⟩ rfl) rfl rfl (congrArg (fun x => [Value.agg #[x]]) (idq_ren (N 1) (Q 1) (1 + 1) (C 1)).symm) rfl ⟨_, _, _, Nat.le_refl _, rfl, rfl⟩ (by rintro _ _ ⟨_, _, rfl, rfl⟩; rfl) ?_
            rintro _ _ ⟨ca, hca, rfl, rfl⟩
            rw [renU_c (renB_p (spare_plain _ _)) renU_nil]
            refine runD_n (z := false) 1 (fun K' hK' => hK' _ _ _ _ ?_) (by decide)
            clear hK' K'
            refine runD_op (vex_ixs (j := 0) rfl rfl rfl hn0 rfl rfl) rfl ?_
            refine runD_rd (vex_ldr (cq_len N Q C) (j := 0) (i := 0) (d := cq N Q C 0) rfl (Nat.zero_add _) rfl (rws_win (cq N Q C) (List.range m)) rfl (range_at (hm 0 hn0 (by decide))) (by decide) rfl) rfl rfl ?_
            refine runD_fc (fun _ => (0 + 1, 0)) (p39u (N 0) (Q 0) (C 0) (hN 0) (hC 0)) (hasF ⟨sf_winp (c1 := rws rc (Q 0)) (t1 := 0) (own := false) (rcs_plain _) rfl get_zero, trivial⟩ rfl) rfl rfl (congrArg (fun x => [Value.agg #[x]]) (idq_ren (N 0) (Q 0) (0 + 1) (C 0)).symm) rfl ⟨_, _, _, Nat.le_refl _, rfl, rfl⟩ (by rintro _ _ ⟨_, _, rfl, rfl⟩; rfl) ?_
            rintro _ _ ⟨cb, hcb, rfl, rfl⟩
            rw [renU_c (renB_p (spare_plain _ _)) renU_nil]
            refine runD_end (z := false) fun K' hK' => hK' _ _ _ _ (hK _ _ _ ?_)
            clear hK' K' hK K
            exact ⟨rfl, _, fg_focus [(0, .slice (some ⟨0, 0, none⟩) n cap), (1, .slice none 0 0), (4, .bool false), (25, .slice (some ⟨0, 0, none⟩) n cap), (26, .int .i64 (n : Int)), (27, .int .i64 ((1 : Nat) : Int)), (5, .int .i64 ((1 : Nat) : Int)), (6, .pointer (some ⟨14, 0, none⟩)), (7, .pointer (some ⟨21, 0, none⟩)), (8, .pointer (some ⟨22, 0, none⟩))] [(0, .cells (rws (cq N Q C) (List.range m)) 0 false), (1, .cells (rws rc (Q 0)) 0 false), (2, .cells (rws rc (Q 1)) 0 false), (3, .cells (rws rc (Q 2)) 0 false), (4, .cells (rws rc (Q 3)) 0 false), (5, .cells (rws rc (Q 4)) 0 false), (6, .cells (rws rc (Q 5)) 0 false), (7, .cells (rws rc (Q 6)) 0 false), (8, .cells (rws rc (Q 7)) 0 false), (9, .cells (rws rc (Q 8)) 0 false), (10, .cells (rws rc R) 0 false), (14, .cells (cq N Q C 1) 55 true), (16, .cells (rws rc ((Q 1).take 17) ++ zrow (ca - ((Q 1).take 17).length) z5) 67 true), (20, .cells (rws rc ((Q 0).take 17) ++ zrow (cb - ((Q 0).take 17).length) z5) 67 true), (21, .cells [.slice (some ⟨16, 0, none⟩) ((Q 1).take 17).length ca] 55 true), (22, .cells [.slice (some ⟨20, 0, none⟩) ((Q 0).take 17).length cb] 55 true)] 23 (by decide) ⟨rfl, rfl, rfl, rfl, rfl, rfl, rfl, rfl, rfl, rfl, trivial⟩ ⟨sb rfl, sb rfl, sb rfl, sb rfl, sb rfl, sb rfl, sb rfl, sb rfl, sb rfl, sb rfl, sb rfl, sb rfl, sb rfl, sb rfl, sb rfl, sb rfl, trivial⟩ rfl (bdH_b (by decide) (row_bd fun k hk => by have := List.mem_range.1 hk; omega) (bdH_c (by decide) (rcs_plain (Q 0)) (bdH_c (by decide) (rcs_plain (Q 1)) (bdH_c (by decide) (rcs_plain (Q 2)) (bdH_c (by decide) (rcs_plain (Q 3)) (bdH_c (by decide) (rcs_plain (Q 4)) (bdH_c (by decide) (rcs_plain (Q 5)) (bdH_c (by decide) (rcs_plain (Q 6)) (bdH_c (by decide) (rcs_plain (Q 7)) (bdH_c (by decide) (rcs_plain (Q 8)) (bdH_c (by decide) (rcs_plain R) (bdH_b (by decide) (row_bd (l := [1]) fun k hk => by (have := List.mem_singleton.1 hk); omega) (bdH_c (by decide) (plainL_append (rcs_plain _) (zrow_plain rfl _)) (bdH_c (by decide) (plainL_append (rcs_plain _) (zrow_plain rfl _)) (bdH_b (by decide) rfl (bdH_b (by decide) rfl rfl)))))))))))))))), ca, cb, _, _, _, _, rfl, rfl, zrow_plain rfl _, zrow_plain rfl _, rfl⟩
          · have hn0 : 0 < n := by omega
            refine vc_regD [(1, 4), (0, 6), (1, 6), (4, 6), (5, 6), (0, 7), (1, 7), (4, 7), (5, 7), (6, 7)] (by kernel_rfl) (by kernel_rfl) fun K hK => ?_
            refine runD_n (z := false) 1 (fun K' hK' => hK' _ _ _ _ ?_) (by decide)
            clear hK' K'
            refine runD_fc (fun _ => (2 + 1, 0)) (p39u (N 2) (Q 2) (C 2) (hN 2) (hC 2)) (hasF ⟨sf_winp (c1 := rws rc (Q 2)) (t1 := 0) (own := false) (rcs_plain _) rfl get_zero, trivial⟩ rfl) rfl rfl (congrArg (fun x => [Value.agg #[x]]) (idq_ren (N 2) (Q 2) (2 + 1) (C 2)).symm) rfl ⟨_, _, _, Nat.le_refl _, rfl, rfl⟩ (by rintro _ _ ⟨_, _, rfl, rfl⟩; rfl) ?_
            rintro _ _ ⟨ca, hca, rfl, rfl⟩
            rw [renU_c (renB_p (spare_plain _ _)) renU_nil]
            refine runD_n (z := false) 1 (fun K' hK' => hK' _ _ _ _ ?_) (by decide)
            clear hK' K'
            refine runD_op (vex_ixs (j := 0) rfl rfl rfl hn0 rfl rfl) rfl ?_
            refine runD_rd (vex_ldr (cq_len N Q C) (j := 0) (i := 0) (d := cq N Q C 0) rfl (Nat.zero_add _) rfl (rws_win (cq N Q C) (List.range m)) rfl (range_at (hm 0 hn0 (by decide))) (by decide) rfl) rfl rfl ?_
            refine runD_fc (fun _ => (0 + 1, 0)) (p39u (N 0) (Q 0) (C 0) (hN 0) (hC 0)) (hasF ⟨sf_winp (c1 := rws rc (Q 0)) (t1 := 0) (own := false) (rcs_plain _) rfl get_zero, trivial⟩ rfl) rfl rfl (congrArg (fun x => [Value.agg #[x]]) (idq_ren (N 0) (Q 0) (0 + 1) (C 0)).symm) rfl ⟨_, _, _, Nat.le_refl _, rfl, rfl⟩ (by rintro _ _ ⟨_, _, rfl, rfl⟩; rfl) ?_
            rintro _ _ ⟨cb, hcb, rfl, rfl⟩
            rw [renU_c (renB_p (spare_plain _ _)) renU_nil]
            refine runD_end (z := false) fun K' hK' => hK' _ _ _ _ (hK _ _ _ ?_)
            clear hK' K' hK K
            exact ⟨rfl, _, fg_focus [(0, .slice (some ⟨0, 0, none⟩) n cap), (1, .slice none 0 0), (4, .bool false), (25, .slice (some ⟨0, 0, none⟩) n cap), (26, .int .i64 (n : Int)), (27, .int .i64 ((2 : Nat) : Int)), (5, .int .i64 ((2 : Nat) : Int)), (6, .pointer (some ⟨14, 0, none⟩)), (7, .pointer (some ⟨21, 0, none⟩)), (8, .pointer (some ⟨22, 0, none⟩))] [(0, .cells (rws (cq N Q C) (List.range m)) 0 false), (1, .cells (rws rc (Q 0)) 0 false), (2, .cells (rws rc (Q 1)) 0 false), (3, .cells (rws rc (Q 2)) 0 false), (4, .cells (rws rc (Q 3)) 0 false), (5, .cells (rws rc (Q 4)) 0 false), (6, .cells (rws rc (Q 5)) 0 false), (7, .cells (rws rc (Q 6)) 0 false), (8, .cells (rws rc (Q 7)) 0 false), (9, .cells (rws rc (Q 8)) 0 false), (10, .cells (rws rc R) 0 false), (14, .cells (cq N Q C 2) 55 true), (16, .cells (rws rc ((Q 2).take 17) ++ zrow (ca - ((Q 2).take 17).length) z5) 67 true), (20, .cells (rws rc ((Q 0).take 17) ++ zrow (cb - ((Q 0).take 17).length) z5) 67 true), (21, .cells [.slice (some ⟨16, 0, none⟩) ((Q 2).take 17).length ca] 55 true), (22, .cells [.slice (some ⟨20, 0, none⟩) ((Q 0).take 17).length cb] 55 true)] 23 (by decide) ⟨rfl, rfl, rfl, rfl, rfl, rfl, rfl, rfl, rfl, rfl, trivial⟩ ⟨sb rfl, sb rfl, sb rfl, sb rfl, sb rfl, sb rfl, sb rfl, sb rfl, sb rfl, sb rfl, sb rfl, sb rfl, sb rfl, sb rfl, sb rfl, sb rfl, trivial⟩ rfl (bdH_b (by decide) (row_bd fun k hk => by have := List.mem_range.1 hk; omega) (bdH_c (by decide) (rcs_plain (Q 0)) (bdH_c (by decide) (rcs_plain (Q 1)) (bdH_c (by decide) (rcs_plain (Q 2)) (bdH_c (by decide) (rcs_plain (Q 3)) (bdH_c (by decide) (rcs_plain (Q 4)) (bdH_c (by decide) (rcs_plain (Q 5)) (bdH_c (by decide) (rcs_plain (Q 6)) (bdH_c (by decide) (rcs_plain (Q 7)) (bdH_c (by decide) (rcs_plain (Q 8)) (bdH_c (by decide) (rcs_plain R) (bdH_b (by decide) (row_bd (l := [2]) fun k hk => by (have := List.mem_singleton.1 hk); omega) (bdH_c (by decide) (plainL_append (rcs_plain _) (zrow_plain rfl _)) (bdH_c (by decide) (plainL_append (rcs_plain _) (zrow_plain rfl _)) (bdH_b (by decide) rfl (bdH_b (by decide) rfl rfl)))))))))))))))), ca, cb, _, _, _, _, rfl, rfl, zrow_plain rfl _, zrow_plain rfl _, rfl⟩
          · have hn0 : 0 < n := by omega
            refine vc_regD [(1, 4), (0, 6), (1, 6), (4, 6), (5, 6), (0, 7), (1, 7), (4, 7), (5, 7), (6, 7)] (by kernel_rfl) (by kernel_rfl) fun K hK => ?_
            refine runD_n (z := false) 1 (fun K' hK' => hK' _ _ _ _ ?_) (by decide)
            clear hK' K'
            refine runD_fc (fun _ => (3 + 1, 0)) (p39u (N 3) (Q 3) (C 3) (hN 3) (hC 3)) (hasF ⟨sf_winp (c1 := rws rc (Q 3)) (t1 := 0) (own := false) (rcs_plain _) rfl get_zero, trivial⟩ rfl) rfl rfl (congrArg (fun x => [Value.agg #[x]]) (idq_ren (N 3) (Q 3) (3 + 1) (C 3)).symm) rfl ⟨_, _, _, Nat.le_refl _, rfl, rfl⟩ (by rintro _ _ ⟨_, _, rfl, rfl⟩; rfl) ?_
            rintro _ _ ⟨ca, hca, rfl, rfl⟩
            rw [renU_c (renB_p (spare_plain _ _)) renU_nil]
            refine runD_n (z := false) 1 (fun K' hK' => hK' _ _ _ _ ?_) (by decide)
            clear hK' K'
            refine runD_op (vex_ixs (j := 0) rfl rfl rfl hn0 rfl rfl) rfl ?_
            refine runD_rd (vex_ldr (cq_len N Q C) (j := 0) (i := 0) (d := cq N Q C 0) rfl (Nat.zero_add _) rfl (rws_win (cq N Q C) (List.range m)) rfl (range_at (hm 0 hn0 (by decide))) (by decide) rfl) rfl rfl ?_
            refine runD_fc (fun _ => (0 + 1, 0)) (p39u (N 0) (Q 0) (C 0) (hN 0) (hC 0)) (hasF ⟨sf_winp (c1 := rws rc (Q 0)) (t1 := 0) (own := false) (rcs_plain _) rfl get_zero, trivial⟩ rfl) rfl rfl (congrArg (fun x => [Value.agg #[x]]) (idq_ren (N 0) (Q 0) (0 + 1) (C 0)).symm) rfl ⟨_, _, _, Nat.le_refl _, rfl, rfl⟩ (by rintro _ _ ⟨_, _, rfl, rfl⟩; rfl) ?_
            rintro _ _ ⟨cb, hcb, rfl, rfl⟩
            rw [renU_c (renB_p (spare_plain _ _)) renU_nil]
            refine runD_end (z := false) fun K' hK' => hK' _ _ _ _ (hK _ _ _ ?_)
            clear hK' K' hK K
            exact ⟨rfl, _, fg_focus [(0, .slice (some ⟨0, 0, none⟩) n cap), (1, .slice none 0 0), (4, .bool false), (25, .slice (some ⟨0, 0, none⟩) n cap), (26, .int .i64 (n : Int)), (27, .int .i64 ((3 : Nat) : Int)), (5, .int .i64 ((3 : Nat) : Int)), (6, .pointer (some ⟨14, 0, none⟩)), (7, .pointer (some ⟨21, 0, none⟩)), (8, .pointer (some ⟨22, 0, none⟩))] [(0, .cells (rws (cq N Q C) (List.range m)) 0 false), (1, .cells (rws rc (Q 0)) 0 false), (2, .cells (rws rc (Q 1)) 0 false), (3, .cells (rws rc (Q 2)) 0 false), (4, .cells (rws rc (Q 3)) 0 false), (5, .cells (rws rc (Q 4)) 0 false), (6, .cells (rws rc (Q 5)) 0 false), (7, .cells (rws rc (Q 6)) 0 false), (8, .cells (rws rc (Q 7)) 0 false), (9, .cells (rws rc (Q 8)) 0 false), (10, .cells (rws rc R) 0 false), (14, .cells (cq N Q C 3) 55 true), (16, .cells (rws rc ((Q 3).take 17) ++ zrow (ca - ((Q 3).take 17).length) z5) 67 true), (20, .cells (rws rc ((Q 0).take 17) ++ zrow (cb - ((Q 0).take 17).length) z5) 67 true), (21, .cells [.slice (some ⟨16, 0, none⟩) ((Q 3).take 17).length ca] 55 true), (22, .cells [.slice (some ⟨20, 0, none⟩) ((Q 0).take 17).length cb] 55 true)] 23 (by decide) ⟨rfl, rfl, rfl, rfl, rfl, rfl, rfl, rfl, rfl, rfl, trivial⟩ ⟨sb rfl, sb rfl, sb rfl, sb rfl, sb rfl, sb rfl, sb rfl, sb rfl, sb rfl, sb rfl, sb rfl, sb rfl, sb rfl, sb rfl, sb rfl, sb rfl, trivial⟩ rfl (bdH_b (by decide) (row_bd fun k hk => by have := List.mem_range.1 hk; omega) (bdH_c (by decide) (rcs_plain (Q 0)) (bdH_c (by decide) (rcs_plain (Q 1)) (bdH_c (by decide) (rcs_plain (Q 2)) (bdH_c (by decide) (rcs_plain (Q 3)) (bdH_c (by decide) (rcs_plain (Q 4)) (bdH_c (by decide) (rcs_plain (Q 5)) (bdH_c (by decide) (rcs_plain (Q 6)) (bdH_c (by decide) (rcs_plain (Q 7)) (bdH_c (by decide) (rcs_plain (Q 8)) (bdH_c (by decide) (rcs_plain R) (bdH_b (by decide) (row_bd (l := [3]) fun k hk => by (have := List.mem_singleton.1 hk); omega) (bdH_c (by decide) (plainL_append (rcs_plain _) (zrow_plain rfl _)) (bdH_c (by decide) (plainL_append (rcs_plain _) (zrow_plain rfl _)) (bdH_b (by decide) rfl (bdH_b (by decide) rfl rfl)))))))))))))))), ca, cb, _, _, _, _, rfl, rfl, zrow_plain rfl _, zrow_plain rfl _, rfl⟩
          · have hn0 : 0 < n := by omega
            refine vc_regD [(1, 4), (0, 6), (1, 6), (4, 6), (5, 6), (0, 7), (1, 7), (4, 7), (5, 7), (6, 7)] (by kernel_rfl) (by kernel_rfl) fun K hK => ?_
            refine runD_n (z := false) 1 (fun K' hK' => hK' _ _ _ _ ?_) (by decide)
            clear hK' K'
            refine runD_fc (fun _ => (4 + 1, 0)) (p39u (N 4) (Q 4) (C 4) (hN 4) (hC 4)) (hasF ⟨sf_winp (c1 := rws rc (Q 4)) (t1 := 0) (own := false) (rcs_plain _) rfl get_zero, trivial⟩ rfl) rfl rfl (congrArg (fun x => [Value.agg #[x]]) (idq_ren (N 4) (Q 4) (4 + 1) (C 4)).symm) rfl ⟨_, _, _, Nat.le_refl _, rfl, rfl⟩ (by rintro _ _ ⟨_, _, rfl, rfl⟩; rfl) ?_
            rintro _ _ ⟨ca, hca, rfl, rfl⟩
            rw [renU_c (renB_p (spare_plain _ _)) renU_nil]
            refine runD_n (z := false) 1 (fun K' hK' => hK' _ _ _ _ ?_) (by decide)
            clear hK' K'
            refine runD_op (vex_ixs (j := 0) rfl rfl rfl hn0 rfl rfl) rfl ?_
            refine runD_rd (vex_ldr (cq_len N Q C) (j := 0) (i := 0) (d := cq N Q C 0) rfl (Nat.zero_add _) rfl (rws_win (cq N Q C) (List.range m)) rfl (range_at (hm 0 hn0 (by decide))) (by decide) rfl) rfl rfl ?_
            refine runD_fc (fun _ => (0 + 1, 0)) (p39u (N 0) (Q 0) (C 0) (hN 0) (hC 0)) (hasF ⟨sf_winp (c1 := rws rc (Q 0)) (t1 := 0) (own := false) (rcs_plain _) rfl get_zero, trivial⟩ rfl) rfl rfl (congrArg (fun x => [Value.agg #[x]]) (idq_ren (N 0) (Q 0) (0 + 1) (C 0)).symm) rfl ⟨_, _, _, Nat.le_refl _, rfl, rfl⟩ (by rintro _ _ ⟨_, _, rfl, rfl⟩; rfl) ?_
            rintro _ _ ⟨cb, hcb, rfl, rfl⟩
            rw [renU_c (renB_p (spare_plain _ _)) renU_nil]
            refine runD_end (z := false) fun K' hK' => hK' _ _ _ _ (hK _ _ _ ?_)
            clear hK' K' hK K
            exact ⟨rfl, _, fg_focus [(0, .slice (some ⟨0, 0, none⟩) n cap), (1, .slice none 0 0), (4, .bool false), (25, .slice (some ⟨0, 0, none⟩) n cap), (26, .int .i64 (n : Int)), (27, .int .i64 ((4 : Nat) : Int)), (5, .int .i64 ((4 : Nat) : Int)), (6, .pointer (some ⟨14, 0, none⟩)), (7, .pointer (some ⟨21, 0, none⟩)), (8, .pointer (some ⟨22, 0, none⟩))] [(0, .cells (rws (cq N Q C) (List.range m)) 0 false), (1, .cells (rws rc (Q 0)) 0 false), (2, .cells (rws rc (Q 1)) 0 false), (3, .cells (rws rc (Q 2)) 0 false), (4, .cells (rws rc (Q 3)) 0 false), (5, .cells (rws rc (Q 4)) 0 false), (6, .cells (rws rc (Q 5)) 0 false), (7, .cells (rws rc (Q 6)) 0 false), (8, .cells (rws rc (Q 7)) 0 false), (9, .cells (rws rc (Q 8)) 0 false), (10, .cells (rws rc R) 0 false), (14, .cells (cq N Q C 4) 55 true), (16, .cells (rws rc ((Q 4).take 17) ++ zrow (ca - ((Q 4).take 17).length) z5) 67 true), (20, .cells (rws rc ((Q 0).take 17) ++ zrow (cb - ((Q 0).take 17).length) z5) 67 true), (21, .cells [.slice (some ⟨16, 0, none⟩) ((Q 4).take 17).length ca] 55 true), (22, .cells [.slice (some ⟨20, 0, none⟩) ((Q 0).take 17).length cb] 55 true)] 23 (by decide) ⟨rfl, rfl, rfl, rfl, rfl, rfl, rfl, rfl, rfl, rfl, trivial⟩ ⟨sb rfl, sb rfl, sb rfl, sb rfl, sb rfl, sb rfl, sb rfl, sb rfl, sb rfl, sb rfl, sb rfl, sb rfl, sb rfl, sb rfl, sb rfl, sb rfl, trivial⟩ rfl (bdH_b (by decide) (row_bd fun k hk => by have := List.mem_range.1 hk; omega) (bdH_c (by decide) (rcs_plain (Q 0)) (bdH_c (by decide) (rcs_plain (Q 1)) (bdH_c (by decide) (rcs_plain (Q 2)) (bdH_c (by decide) (rcs_plain (Q 3)) (bdH_c (by decide) (rcs_plain (Q 4)) (bdH_c (by decide) (rcs_plain (Q 5)) (bdH_c (by decide) (rcs_plain (Q 6)) (bdH_c (by decide) (rcs_plain (Q 7)) (bdH_c (by decide) (rcs_plain (Q 8)) (bdH_c (by decide) (rcs_plain R) (bdH_b (by decide) (row_bd (l := [4]) fun k hk => by (have := List.mem_singleton.1 hk); omega) (bdH_c (by decide) (plainL_append (rcs_plain _) (zrow_plain rfl _)) (bdH_c (by decide) (plainL_append (rcs_plain _) (zrow_plain rfl _)) (bdH_b (by decide) rfl (bdH_b (by decide) rfl rfl)))))))))))))))), ca, cb, _, _, _, _, rfl, rfl, zrow_plain rfl _, zrow_plain rfl _, rfl⟩
          · have hn0 : 0 < n := by omega
            refine vc_regD [(1, 4), (0, 6), (1, 6), (4, 6), (5, 6), (0, 7), (1, 7), (4, 7), (5, 7), (6, 7)] (by kernel_rfl) (by kernel_rfl) fun K hK => ?_
            refine runD_n (z := false) 1 (fun K' hK' => hK' _ _ _ _ ?_) (by decide)
            clear hK' K'
            refine runD_fc (fun _ => (5 + 1, 0)) (p39u (N 5) (Q 5) (C 5) (hN 5) (hC 5)) (hasF ⟨sf_winp (c1 := rws rc (Q 5)) (t1 := 0) (own := false) (rcs_plain _) rfl get_zero, trivial⟩ rfl) rfl rfl (congrArg (fun x => [Value.agg #[x]]) (idq_ren (N 5) (Q 5) (5 + 1) (C 5)).symm) rfl ⟨_, _, _, Nat.le_refl _, rfl, rfl⟩ (by rintro _ _ ⟨_, _, rfl, rfl⟩; rfl) ?_
            rintro _ _ ⟨ca, hca, rfl, rfl⟩
            rw [renU_c (renB_p (spare_plain _ _)) renU_nil]
            refine runD_n (z := false) 1 (fun K' hK' => hK' _ _ _ _ ?_) (by decide)
            clear hK' K'
            refine runD_op (vex_ixs (j := 0) rfl rfl rfl hn0 rfl rfl) rfl ?_
            refine runD_rd (vex_ldr (cq_len N Q C) (j := 0) (i := 0) (d := cq N Q C 0) rfl (Nat.zero_add _) rfl (rws_win (cq N Q C) (List.range m)) rfl (range_at (hm 0 hn0 (by decide))) (by decide) rfl) rfl rfl ?_
            refine runD_fc (fun _ => (0 + 1, 0)) (p39u (N 0) (Q 0) (C 0) (hN 0) (hC 0)) (hasF ⟨sf_winp (c1 := rws rc (Q 0)) (t1 := 0) (own := false) (rcs_plain _) rfl get_zero, trivial⟩ rfl) rfl rfl (congrArg (fun x => [Value.agg #[x]]) (idq_ren (N 0) (Q 0) (0 + 1) (C 0)).symm) rfl ⟨_, _, _, Nat.le_refl _, rfl, rfl⟩ (by rintro _ _ ⟨_, _, rfl, rfl⟩; rfl) ?_
            rintro _ _ ⟨cb, hcb, rfl, rfl⟩
            rw [renU_c (renB_p (spare_plain _ _)) renU_nil]
            refine runD_end (z := false) fun K' hK' => hK' _ _ _ _ (hK _ _ _ ?_)
            clear hK' K' hK K
            exact ⟨rfl, _, fg_focus [(0, .slice (some ⟨0, 0, none⟩) n cap), (1, .slice none 0 0), (4, .bool false), (25, .slice (some ⟨0, 0, none⟩) n cap), (26, .int .i64 (n : Int)), (27, .int .i64 ((5 : Nat) : Int)), (5, .int .i64 ((5 : Nat) : Int)), (6, .pointer (some ⟨14, 0, none⟩)), (7, .pointer (some ⟨21, 0, none⟩)), (8, .pointer (some ⟨22, 0, none⟩))] [(0, .cells (rws (cq N Q C) (List.range m)) 0 false), (1, .cells (rws rc (Q 0)) 0 false), (2, .cells (rws rc (Q 1)) 0 false), (3, .cells (rws rc (Q 2)) 0 false), (4, .cells (rws rc (Q 3)) 0 false), (5, .cells (rws rc (Q 4)) 0 false), (6, .cells (rws rc (Q 5)) 0 false), (7, .cells (rws rc (Q 6)) 0 false), (8, .cells (rws rc (Q 7)) 0 false), (9, .cells (rws rc (Q 8)) 0 false), (10, .cells (rws rc R) 0 false), (14, .cells (cq N Q C 5) 55 true), (16, .cells (rws rc ((Q 5).take 17) ++ zrow (ca - ((Q 5).take 17).length) z5) 67 true), (20, .cells (rws rc ((Q 0).take 17) ++ zrow (cb - ((Q 0).take 17).length) z5) 67 true), (21, .cells [.slice (some ⟨16, 0, none⟩) ((Q 5).take 17).length ca] 55 true), (22, .cells [.slice (some ⟨20, 0, none⟩) ((Q 0).take 17).length cb] 55 true)] 23 (by decide) ⟨rfl, rfl, rfl, rfl, rfl, rfl, rfl, rfl, rfl, rfl, trivial⟩ ⟨sb rfl, sb rfl, sb rfl, sb rfl, sb rfl, sb rfl, sb rfl, sb rfl, sb rfl, sb rfl, sb rfl, sb rfl, sb rfl, sb rfl, sb rfl, sb rfl, trivial⟩ rfl (bdH_b (by decide) (row_bd fun k hk => by have := List.mem_range.1 hk; omega) (bdH_c (by decide) (rcs_plain (Q 0)) (bdH_c (by decide) (rcs_plain (Q 1)) (bdH_c (by decide) (rcs_plain (Q 2)) (bdH_c (by decide) (rcs_plain (Q 3)) (bdH_c (by decide) (rcs_plain (Q 4)) (bdH_c (by decide) (rcs_plain (Q 5)) (bdH_c (by decide) (rcs_plain (Q 6)) (bdH_c (by decide) (rcs_plain (Q 7)) (bdH_c (by decide) (rcs_plain (Q 8)) (bdH_c (by decide) (rcs_plain R) (bdH_b (by decide) (row_bd (l := [5]) fun k hk => by (have := List.mem_singleton.1 hk); omega) (bdH_c (by decide) (plainL_append (rcs_plain _) (zrow_plain rfl _)) (bdH_c (by decide) (plainL_append (rcs_plain _) (zrow_plain rfl _)) (bdH_b (by decide) rfl (bdH_b (by decide) rfl rfl)))))))))))))))), ca, cb, _, _, _, _, rfl, rfl, zrow_plain rfl _, zrow_plain rfl _, rfl⟩
          · have hn0 : 0 < n := by omega
            refine vc_regD [(1, 4), (0, 6), (1, 6), (4, 6), (5, 6), (0, 7), (1, 7), (4, 7), (5, 7), (6, 7)] (by kernel_rfl) (by kernel_rfl) fun K hK => ?_
            refine runD_n (z := false) 1 (fun K' hK' => hK' _ _ _ _ ?_) (by decide)
            clear hK' K'
            refine runD_fc (fun _ => (6 + 1, 0)) (p39u (N 6) (Q 6) (C 6) (hN 6) (hC 6)) (hasF ⟨sf_winp (c1 := rws rc (Q 6)) (t1 := 0) (own := false) (rcs_plain _) rfl get_zero, trivial⟩ rfl) rfl rfl (congrArg (fun x => [Value.agg #[x]]) (idq_ren (N 6) (Q 6) (6 + 1) (C 6)).symm) rfl ⟨_, _, _, Nat.le_refl _, rfl, rfl⟩ (by rintro _ _ ⟨_, _, rfl, rfl⟩; rfl) ?_
            rintro _ _ ⟨ca, hca, rfl, rfl⟩
            rw [renU_c (renB_p (spare_plain _ _)) renU_nil]
            refine runD_n (z := false) 1 (fun K' hK' => hK' _ _ _ _ ?_) (by decide)
            clear hK' K'
            refine runD_op (vex_ixs (j := 0) rfl rfl rfl hn0 rfl rfl) rfl ?_
            refine runD_rd (vex_ldr (cq_len N Q C) (j := 0) (i := 0) (d := cq N Q C 0) rfl (Nat.zero_add _) rfl (rws_win (cq N Q C) (List.range m)) rfl (range_at (hm 0 hn0 (by decide))) (by decide) rfl) rfl rfl ?_
            refine runD_fc (fun _ => (0 + 1, 0)) (p39u (N 0) (Q 0) (C 0) (hN 0) (hC 0)) (hasF ⟨sf_winp (c1 := rws rc (Q 0)) (t1 := 0) (own := false) (rcs_plain _) rfl get_zero, trivial⟩ rfl) rfl rfl (congrArg (fun x => [Value.agg #[x]]) (idq_ren (N 0) (Q 0) (0 + 1) (C 0)).symm) rfl ⟨_, _, _, Nat.le_refl _, rfl, rfl⟩ (by rintro _ _ ⟨_, _, rfl, rfl⟩; rfl) ?_
            rintro _ _ ⟨cb, hcb, rfl, rfl⟩
            rw [renU_c (renB_p (spare_plain _ _)) renU_nil]
            refine runD_end (z := false) fun K' hK' => hK' _ _ _ _ (hK _ _ _ ?_)
            clear hK' K' hK K
            exact ⟨rfl, _, fg_focus [(0, .slice (some ⟨0, 0, none⟩) n cap), (1, .slice none 0 0), (4, .bool false), (25, .slice (some ⟨0, 0, none⟩) n cap), (26, .int .i64 (n : Int)), (27, .int .i64 ((6 : Nat) : Int)), (5, .int .i64 ((6 : Nat) : Int)), (6, .pointer (some ⟨14, 0, none⟩)), (7, .pointer (some ⟨21, 0, none⟩)), (8, .pointer (some ⟨22, 0, none⟩))] [(0, .cells (rws (cq N Q C) (List.range m)) 0 false), (1, .cells (rws rc (Q 0)) 0 false), (2, .cells (rws rc (Q 1)) 0 false), (3, .cells (rws rc (Q 2)) 0 false), (4, .cells (rws rc (Q 3)) 0 false), (5, .cells (rws rc (Q 4)) 0 false), (6, .cells (rws rc (Q 5)) 0 false), (7, .cells (rws rc (Q 6)) 0 false), (8, .cells (rws rc (Q 7)) 0 false), (9, .cells (rws rc (Q 8)) 0 false), (10, .cells (rws rc R) 0 false), (14, .cells (cq N Q C 6) 55 true), (16, .cells (rws rc ((Q 6).take 17) ++ zrow (ca - ((Q 6).take 17).length) z5) 67 true), (20, .cells (rws rc ((Q 0).take 17) ++ zrow (cb - ((Q 0).take 17).length) z5) 67 true), (21, .cells [.slice (some ⟨16, 0, none⟩) ((Q 6).take 17).length ca] 55 true), (22, .cells [.slice (some ⟨20, 0, none⟩) ((Q 0).take 17).length cb] 55 true)] 23 (by decide) ⟨rfl, rfl, rfl, rfl, rfl, rfl, rfl, rfl, rfl, rfl, trivial⟩ ⟨sb rfl, sb rfl, sb rfl, sb rfl, sb rfl, sb rfl, sb rfl, sb rfl, sb rfl, sb rfl, sb rfl, sb rfl, sb rfl, sb rfl, sb rfl, sb rfl, trivial⟩ rfl (bdH_b (by decide) (row_bd fun k hk => by have := List.mem_range.1 hk; omega) (bdH_c (by decide) (rcs_plain (Q 0)) (bdH_c (by decide) (rcs_plain (Q 1)) (bdH_c (by decide) (rcs_plain (Q 2)) (bdH_c (by decide) (rcs_plain (Q 3)) (bdH_c (by decide) (rcs_plain (Q 4)) (bdH_c (by decide) (rcs_plain (Q 5)) (bdH_c (by decide) (rcs_plain (Q 6)) (bdH_c (by decide) (rcs_plain (Q 7)) (bdH_c (by decide) (rcs_plain (Q 8)) (bdH_c (by decide) (rcs_plain R) (bdH_b (by decide) (row_bd (l := [6]) fun k hk => by (have := List.mem_singleton.1 hk); omega) (bdH_c (by decide) (plainL_append (rcs_plain _) (zrow_plain rfl _)) (bdH_c (by decide) (plainL_append (rcs_plain _) (zrow_plain rfl _)) (bdH_b (by decide) rfl (bdH_b (by decide) rfl rfl)))))))))))))))), ca, cb, _, _, _, _, rfl, rfl, zrow_plain rfl _, zrow_plain rfl _, rfl⟩
          · have hn0 : 0 < n := by omega
            refine vc_regD [(1, 4), (0, 6), (1, 6), (4, 6), (5, 6), (0, 7), (1, 7), (4, 7), (5, 7), (6, 7)] (by kernel_rfl) (by kernel_rfl) fun K hK => ?_
            refine runD_n (z := false) 1 (fun K' hK' => hK' _ _ _ _ ?_) (by decide)
            clear hK' K'
            refine runD_fc (fun _ => (7 + 1, 0)) (p39u (N 7) (Q 7) (C 7) (hN 7) (hC 7)) (hasF ⟨sf_winp (c1 := rws rc (Q 7)) (t1 := 0) (own := false) (rcs_plain _) rfl get_zero, trivial⟩ rfl) rfl rfl (congrArg (fun x => [Value.agg #[x]]) (idq_ren (N 7) (Q 7) (7 + 1) (C 7)).symm) rfl ⟨_, _, _, Nat.le_refl _, rfl, rfl⟩ (by rintro _ _ ⟨_, _, rfl, rfl⟩; rfl) ?_
            rintro _ _ ⟨ca, hca, rfl, rfl⟩
            rw [renU_c (renB_p (spare_plain _ _)) renU_nil]
            refine runD_n (z := false) 1 (fun K' hK' => hK' _ _ _ _ ?_) (by decide)
            clear hK' K'
            refine runD_op (vex_ixs (j := 0) rfl rfl rfl hn0 rfl rfl) rfl ?_
            refine runD_rd (vex_ldr (cq_len N Q C) (j := 0) (i := 0) (d := cq N Q C 0) rfl (Nat.zero_add _) rfl (rws_win (cq N Q C) (List.range m)) rfl (range_at (hm 0 hn0 (by decide))) (by decide) rfl) rfl rfl ?_
            refine runD_fc (fun _ => (0 + 1, 0)) (p39u (N 0) (Q 0) (C 0) (hN 0) (hC 0)) (hasF ⟨sf_winp (c1 := rws rc (Q 0)) (t1 := 0) (own := false) (rcs_plain _) rfl get_zero, trivial⟩ rfl) rfl rfl (congrArg (fun x => [Value.agg #[x]]) (idq_ren (N 0) (Q 0) (0 + 1) (C 0)).symm) rfl ⟨_, _, _, Nat.le_refl _, rfl, rfl⟩ (by rintro _ _ ⟨_, _, rfl, rfl⟩; rfl) ?_
            rintro _ _ ⟨cb, hcb, rfl, rfl⟩
            rw [renU_c (renB_p (spare_plain _ _)) renU_nil]
            refine runD_end (z := false) fun K' hK' => hK' _ _ _ _ (hK _ _ _ ?_)
            clear hK' K' hK K
            exact ⟨rfl, _, fg_focus [(0, .slice (some ⟨0, 0, none⟩) n cap), (1, .slice none 0 0), (4, .bool false), (25, .slice (some ⟨0, 0, none⟩) n cap), (26, .int .i64 (n : Int)), (27, .int .i64 ((7 : Nat) : Int)), (5, .int .i64 ((7 : Nat) : Int)), (6, .pointer (some ⟨14, 0, none⟩)), (7, .pointer (some ⟨21, 0, none⟩)), (8, .pointer (some ⟨22, 0, none⟩))] [(0, .cells (rws (cq N Q C) (List.range m)) 0 false), (1, .cells (rws rc (Q 0)) 0 false), (2, .cells (rws rc (Q 1)) 0 false), (3, .cells (rws rc (Q 2)) 0 false), (4, .cells (rws rc (Q 3)) 0 false), (5, .cells (rws rc (Q 4)) 0 false), (6, .cells (rws rc (Q 5)) 0 false), (7, .cells (rws rc (Q 6)) 0 false), (8, .cells (rws rc (Q 7)) 0 false), (9, .cells (rws rc (Q 8)) 0 false), (10, .cells (rws rc R) 0 false), (14, .cells (cq N Q C 7) 55 true), (16, .cells (rws rc ((Q 7).take 17) ++ zrow (ca - ((Q 7).take 17).length) z5) 67 true), (20, .cells (rws rc ((Q 0).take 17) ++ zrow (cb - ((Q 0).take 17).length) z5) 67 true), (21, .cells [.slice (some ⟨16, 0, none⟩) ((Q 7).take 17).length ca] 55 true), (22, .cells [.slice (some ⟨20, 0, none⟩) ((Q 0).take 17).length cb] 55 true)] 23 (by decide) ⟨rfl, rfl, rfl, rfl, rfl, rfl, rfl, rfl, rfl, rfl, trivial⟩ ⟨sb rfl, sb rfl, sb rfl, sb rfl, sb rfl, sb rfl, sb rfl, sb rfl, sb rfl, sb rfl, sb rfl, sb rfl, sb rfl, sb rfl, sb rfl, sb rfl, trivial⟩ rfl (bdH_b (by decide) (row_bd fun k hk => by have := List.mem_range.1 hk; omega) (bdH_c (by decide) (rcs_plain (Q 0)) (bdH_c (by decide) (rcs_plain (Q 1)) (bdH_c (by decide) (rcs_plain (Q 2)) (bdH_c (by decide) (rcs_plain (Q 3)) (bdH_c (by decide) (rcs_plain (Q 4)) (bdH_c (by decide) (rcs_plain (Q 5)) (bdH_c (by decide) (rcs_plain (Q 6)) (bdH_c (by decide) (rcs_plain (Q 7)) (bdH_c (by decide) (rcs_plain (Q 8)) (bdH_c (by decide) (rcs_plain R) (bdH_b (by decide) (row_bd (l := [7]) fun k hk => by (have := List.mem_singleton.1 hk); omega) (bdH_c (by decide) (plainL_append (rcs_plain _) (zrow_plain rfl _)) (bdH_c (by decide) (plainL_append (rcs_plain _) (zrow_plain rfl _)) (bdH_b (by decide) rfl (bdH_b (by decide) rfl rfl)))))))))))))))), ca, cb, _, _, _, _, rfl, rfl, zrow_plain rfl _, zrow_plain rfl _, rfl⟩
        · skip
          rintro s2 ⟨ca, cb, sp, sp0, q, q0, hq, hq0, hsp, hsp0, rfl⟩
          have hql : q.length ≤ 17 := by rw [hq]; exact take17 _
          have h71 := p71 q ca (by omega)
          have h47 := p47 q ca (by omega)
          have h45 := p45 q q0 ca cb (by omega)
          have h72 := p72 q q0 ca cb (by omega)
          refine vc_seq ?_
          cases hokq : okq 0 q
          · rw [hokq] at h71
            rw [chk1_no hokq] at h47
            refine vc_reg (by kernel_rfl) fun K hK => ?_
            refine run_n (z := false) 1 (fun K' hK' => hK' _ _ _ ?_) (by decide)
            clear hK' K'
            refine run_ro (fun _ => (16, 0)) (h71) ?_ rfl rfl rfl rfl ?_
            · intro x hx
              simp only [List.mem_singleton] at hx
              subst hx
              exact ⟨_, _, _, rfl, get_zero_app⟩
            refine run_end (z := false) fun K' hK' => hK' _ _ _ (hK _ _ _ ?_)
            clear hK' K' hK K
            refine vc_seq ?_
            refine vc_mid (fun s => s = can [(0, .slice (some ⟨0, 0, none⟩) n cap), (1, .slice none 0 0), (4, .bool false), (25, .slice (some ⟨0, 0, none⟩) n cap), (26, .int .i64 (n : Int)), (27, .int .i64 ((i : Nat) : Int)), (7, .pointer (some ⟨21, 0, none⟩)), (9, .bool false)] [(0, .cells (rws (cq N Q C) (List.range m)) 0 false), (1, .cells (rws rc (Q 0)) 0 false), (2, .cells (rws rc (Q 1)) 0 false), (3, .cells (rws rc (Q 2)) 0 false), (4, .cells (rws rc (Q 3)) 0 false), (5, .cells (rws rc (Q 4)) 0 false), (6, .cells (rws rc (Q 5)) 0 false), (7, .cells (rws rc (Q 6)) 0 false), (8, .cells (rws rc (Q 7)) 0 false), (9, .cells (rws rc (Q 8)) 0 false), (10, .cells (rws rc R) 0 false), (16, .cells (rws rc q ++ sp) 67 true), (21, .cells [.slice (some ⟨16, 0, none⟩) q.length ca] 55 true)] 23) ?_ ?_
            · skip
              refine vc_seq ?_
              refine vc_reg (by kernel_rfl) fun K hK => ?_
              refine run_n (z := false) 1 (fun K' hK' => hK' _ _ _ ?_) (by decide)
              clear hK' K'
              refine run_ro (fun _ => (16, 0)) (h47) ?_ rfl rfl rfl rfl ?_
              · intro x hx
                simp only [List.mem_singleton] at hx
                subst hx
                exact ⟨_, _, _, rfl, get_zero_app⟩
              refine run_end (z := false) fun K' hK' => hK' _ _ _ (hK _ _ _ ?_)
              clear hK' K' hK K
              refine vc_seq ?_
              have h8n : i ≠ 8 := by rintro rfl; simp at h8
              clear h8
              have hi8 : i = 0 ∨ i = 1 ∨ i = 2 ∨ i = 3 ∨ i = 4 ∨ i = 5 ∨ i = 6 ∨ i = 7 := by omega
              rcases hi8 with rfl | rfl | rfl | rfl | rfl | rfl | rfl | rfl
              · skip
                refine vc_regD [(15, 16), (15, 17), (22, 24)] (by kernel_rfl) (by kernel_rfl) fun K hK => ?_
                refine runD_n (z := false) 5 (fun K' hK' => hK' _ _ _ _ ?_) (by decide)
                clear hK' K'
                refine W_known 48 (b := false) (rfl) ?_
                refine runD_n (z := false) 3 (fun K' hK' => hK' _ _ _ _ ?_) (by decide)
                clear hK' K'
                refine W_known 51 (b := true) (rfl) ?_
                refine runD_n (z := false) 5 (fun K' hK' => hK' _ _ _ _ ?_) (by decide)
                clear hK' K'
                refine W_known 56 (b := false) (rfl) ?_
                refine runD_n (z := false) 2 (fun K' hK' => hK' _ _ _ _ ?_) (by decide)
                clear hK' K'
                refine runD_ro (fun k => if k = 0 then (16, 0) else (20, 0)) h45 ?_ rfl rfl rfl rfl rfl ?_
                · intro x hx
                  simp only [List.mem_cons, List.mem_singleton, List.not_mem_nil, or_false] at hx
                  rcases hx with rfl | rfl
                  · exact ⟨_, _, _, rfl, get_zero_app⟩
                  · exact ⟨_, _, _, rfl, get_zero_app⟩
                refine runD_n (z := false) 2 (fun K' hK' => hK' _ _ _ _ ?_) (by decide)
                clear hK' K'
                refine runD_ro (fun k => if k = 0 then (16, 0) else (20, 0)) h72 ?_ rfl rfl rfl rfl rfl ?_
                · intro x hx
                  simp only [List.mem_cons, List.mem_singleton, List.not_mem_nil, or_false] at hx
                  rcases hx with rfl | rfl
                  · exact ⟨_, _, _, rfl, get_zero_app⟩
                  · exact ⟨_, _, _, rfl, get_zero_app⟩
                refine runD_n (z := false) 3 (fun K' hK' => hK' _ _ _ _ ?_) (by decide)
                clear hK' K'
                refine W_known 65 (b := false) (bb (by simp)) ?_
                refine runD_n (z := false) 2 (fun K' hK' => hK' _ _ _ _ ?_) (by decide)
                clear hK' K'
                refine runD_fc (fun _ => (0 + 1, 0)) (p39u (N 0) (Q 0) (C 0) (hN 0) (hC 0)) (hasF ⟨sf_winp (c1 := rws rc (Q 0)) (t1 := 0) (own := false) (rcs_plain _) rfl get_zero, trivial⟩ rfl) rfl rfl (congrArg (fun x => [Value.agg #[x]]) (idq_ren (N 0) (Q 0) (0 + 1) (C 0)).symm) rfl ⟨_, _, _, Nat.le_refl _, rfl, rfl⟩ (by rintro _ _ ⟨_, _, rfl, rfl⟩; rfl) ?_
                rintro _ _ ⟨cc, hcc, rfl, rfl⟩
                rw [renU_c (renB_p (spare_plain _ _)) renU_nil]
                simp only [← hq]
                refine runD_ro (fun k => if k = 0 then (16, 0) else (47, 0)) (same_ro q ca cc (by omega)) ?_ rfl rfl rfl rfl rfl ?_
                · intro x hx
                  simp only [List.mem_cons, List.mem_singleton, List.not_mem_nil, or_false] at hx
                  rcases hx with rfl | rfl
                  · exact ⟨_, _, _, rfl, get_zero_app⟩
                  · exact ⟨_, _, _, rfl, get_zero_app⟩
                refine runD_end (z := false) fun K' hK' => hK' _ _ _ _ (hK _ _ _ ?_)
                clear hK' K' hK K
                refine vc_cond (t := false) rfl (fun h => by cases h) (fun _ => ?_)
                refine vc_skip ?_
                exact ⟨rfl, _, fg_focus [(0, .slice (some ⟨0, 0, none⟩) n cap), (1, .slice none 0 0), (4, .bool false), (25, .slice (some ⟨0, 0, none⟩) n cap), (26, .int .i64 (n : Int)), (27, .int .i64 ((0 : Nat) : Int)), (7, .pointer (some ⟨21, 0, none⟩)), (9, .bool false)] [(0, .cells (rws (cq N Q C) (List.range m)) 0 false), (1, .cells (rws rc (Q 0)) 0 false), (2, .cells (rws rc (Q 1)) 0 false), (3, .cells (rws rc (Q 2)) 0 false), (4, .cells (rws rc (Q 3)) 0 false), (5, .cells (rws rc (Q 4)) 0 false), (6, .cells (rws rc (Q 5)) 0 false), (7, .cells (rws rc (Q 6)) 0 false), (8, .cells (rws rc (Q 7)) 0 false), (9, .cells (rws rc (Q 8)) 0 false), (10, .cells (rws rc R) 0 false), (16, .cells (rws rc q ++ sp) 67 true), (21, .cells [.slice (some ⟨16, 0, none⟩) q.length ca] 55 true)] 23 (by decide) ⟨rfl, rfl, rfl, rfl, rfl, rfl, rfl, rfl, trivial⟩ ⟨sb rfl, sb rfl, sb rfl, sb rfl, sb rfl, sb rfl, sb rfl, sb rfl, sb rfl, sb rfl, sb rfl, sb rfl, sb rfl, trivial⟩ rfl (bdH_b (by decide) (row_bd fun k hk => by have := List.mem_range.1 hk; omega) (bdH_c (by decide) (rcs_plain (Q 0)) (bdH_c (by decide) (rcs_plain (Q 1)) (bdH_c (by decide) (rcs_plain (Q 2)) (bdH_c (by decide) (rcs_plain (Q 3)) (bdH_c (by decide) (rcs_plain (Q 4)) (bdH_c (by decide) (rcs_plain (Q 5)) (bdH_c (by decide) (rcs_plain (Q 6)) (bdH_c (by decide) (rcs_plain (Q 7)) (bdH_c (by decide) (rcs_plain (Q 8)) (bdH_c (by decide) (rcs_plain R) (bdH_c (by decide) (plainL_append (rcs_plain _) hsp) (bdH_b (by decide) rfl rfl))))))))))))), rfl⟩
              · skip
                refine vc_regD [(15, 16), (15, 17), (22, 24)] (by kernel_rfl) (by kernel_rfl) fun K hK => ?_
                refine runD_n (z := false) 5 (fun K' hK' => hK' _ _ _ _ ?_) (by decide)
                clear hK' K'
                refine W_known 48 (b := false) (rfl) ?_
                refine runD_n (z := false) 3 (fun K' hK' => hK' _ _ _ _ ?_) (by decide)
                clear hK' K'
                refine W_known 51 (b := true) (rfl) ?_
                refine runD_n (z := false) 5 (fun K' hK' => hK' _ _ _ _ ?_) (by decide)
                clear hK' K'
                refine W_known 56 (b := false) (rfl) ?_
                refine runD_n (z := false) 2 (fun K' hK' => hK' _ _ _ _ ?_) (by decide)
                clear hK' K'
                refine runD_ro (fun k => if k = 0 then (16, 0) else (20, 0)) h45 ?_ rfl rfl rfl rfl rfl ?_
                · intro x hx
                  simp only [List.mem_cons, List.mem_singleton, List.not_mem_nil, or_false] at hx
                  rcases hx with rfl | rfl
                  · exact ⟨_, _, _, rfl, get_zero_app⟩
                  · exact ⟨_, _, _, rfl, get_zero_app⟩
                refine runD_n (z := false) 2 (fun K' hK' => hK' _ _ _ _ ?_) (by decide)
                clear hK' K'
                refine runD_ro (fun k => if k = 0 then (16, 0) else (20, 0)) h72 ?_ rfl rfl rfl rfl rfl ?_
                · intro x hx
                  simp only [List.mem_cons, List.mem_singleton, List.not_mem_nil, or_false] at hx
                  rcases hx with rfl | rfl
                  · exact ⟨_, _, _, rfl, get_zero_app⟩
                  · exact ⟨_, _, _, rfl, get_zero_app⟩
                refine runD_n (z := false) 3 (fun K' hK' => hK' _ _ _ _ ?_) (by decide)
                clear hK' K'
                refine W_known 65 (b := false) (bb (by simp)) ?_
                refine runD_n (z := false) 2 (fun K' hK' => hK' _ _ _ _ ?_) (by decide)
                clear hK' K'
                refine runD_fc (fun _ => (1 + 1, 0)) (p39u (N 1) (Q 1) (C 1) (hN 1) (hC 1)) (hasF ⟨sf_winp (c1 := rws rc (Q 1)) (t1 := 0) (own := false) (rcs_plain _) rfl get_zero, trivial⟩ rfl) rfl rfl (congrArg (fun x => [Value.agg #[x]]) (idq_ren (N 1) (Q 1) (1 + 1) (C 1)).symm) rfl ⟨_, _, _, Nat.le_refl _, rfl, rfl⟩ (by rintro _ _ ⟨_, _, rfl, rfl⟩; rfl) ?_
                rintro _ _ ⟨cc, hcc, rfl, rfl⟩
                rw [renU_c (renB_p (spare_plain _ _)) renU_nil]
                simp only [← hq]
                refine runD_ro (fun k => if k = 0 then (16, 0) else (47, 0)) (same_ro q ca cc (by omega)) ?_ rfl rfl rfl rfl rfl ?_
                · intro x hx
                  simp only [List.mem_cons, List.mem_singleton, List.not_mem_nil, or_false] at hx
                  rcases hx with rfl | rfl
                  · exact ⟨_, _, _, rfl, get_zero_app⟩
                  · exact ⟨_, _, _, rfl, get_zero_app⟩
                refine runD_end (z := false) fun K' hK' => hK' _ _ _ _ (hK _ _ _ ?_)
                clear hK' K' hK K
                refine vc_cond (t := false) rfl (fun h => by cases h) (fun _ => ?_)
                refine vc_skip ?_
                exact ⟨rfl, _, fg_focus [(0, .slice (some ⟨0, 0, none⟩) n cap), (1, .slice none 0 0), (4, .bool false), (25, .slice (some ⟨0, 0, none⟩) n cap), (26, .int .i64 (n : Int)), (27, .int .i64 ((1 : Nat) : Int)), (7, .pointer (some ⟨21, 0, none⟩)), (9, .bool false)] [(0, .cells (rws (cq N Q C) (List.range m)) 0 false), (1, .cells (rws rc (Q 0)) 0 false), (2, .cells (rws rc (Q 1)) 0 false), (3, .cells (rws rc (Q 2)) 0 false), (4, .cells (rws rc (Q 3)) 0 false), (5, .cells (rws rc (Q 4)) 0 false), (6, .cells (rws rc (Q 5)) 0 false), (7, .cells (rws rc (Q 6)) 0 false), (8, .cells (rws rc (Q 7)) 0 false), (9, .cells (rws rc (Q 8)) 0 false), (10, .cells (rws rc R) 0 false), (16, .cells (rws rc q ++ sp) 67 true), (21, .cells [.slice (some ⟨16, 0, none⟩) q.length ca] 55 true)] 23 (by decide) ⟨rfl, rfl, rfl, rfl, rfl, rfl, rfl, rfl, trivial⟩ ⟨sb rfl, sb rfl, sb rfl, sb rfl, sb rfl, sb rfl, sb rfl, sb rfl, sb rfl, sb rfl, sb rfl, sb rfl, sb rfl, trivial⟩ rfl (bdH_b (by decide) (row_bd fun k hk => by have := List.mem_range.1 hk; omega) (bdH_c (by decide) (rcs_plain (Q 0)) (bdH_c (by decide) (rcs_plain (Q 1)) (bdH_c (by decide) (rcs_plain (Q 2)) (bdH_c (by decide) (rcs_plain (Q 3)) (bdH_c (by decide) (rcs_plain (Q 4)) (bdH_c (by decide) (rcs_plain (Q 5)) (bdH_c (by decide) (rcs_plain (Q 6)) (bdH_c (by decide) (rcs_plain (Q 7)) (bdH_c (by decide) (rcs_plain (Q 8)) (bdH_c (by decide) (rcs_plain R) (bdH_c (by decide) (plainL_append (rcs_plain _) hsp) (bdH_b (by decide) rfl rfl))))))))))))), rfl⟩
              · skip
                refine vc_regD [(15, 16), (15, 17), (22, 24)] (by kernel_rfl) (by kernel_rfl) fun K hK => ?_
                refine runD_n (z := false) 5 (fun K' hK' => hK' _ _ _ _ ?_) (by decide)
                clear hK' K'
                refine W_known 48 (b := false) (rfl) ?_
                refine runD_n (z := false) 3 (fun K' hK' => hK' _ _ _ _ ?_) (by decide)
                clear hK' K'
                refine W_known 51 (b := true) (rfl) ?_
                refine runD_n (z := false) 5 (fun K' hK' => hK' _ _ _ _ ?_) (by decide)
                clear hK' K'
                refine W_known 56 (b := false) (rfl) ?_
                refine runD_n (z := false) 2 (fun K' hK' => hK' _ _ _ _ ?_) (by decide)
                clear hK' K'
                refine runD_ro (fun k => if k = 0 then (16, 0) else (20, 0)) h45 ?_ rfl rfl rfl rfl rfl ?_
                · intro x hx
                  simp only [List.mem_cons, List.mem_singleton, List.not_mem_nil, or_false] at hx
                  rcases hx with rfl | rfl
                  · exact ⟨_, _, _, rfl, get_zero_app⟩
                  · exact ⟨_, _, _, rfl, get_zero_app⟩
                refine runD_n (z := false) 2 (fun K' hK' => hK' _ _ _ _ ?_) (by decide)
                clear hK' K'
                refine runD_ro (fun k => if k = 0 then (16, 0) else (20, 0)) h72 ?_ rfl rfl rfl rfl rfl ?_
                · intro x hx
                  simp only [List.mem_cons, List.mem_singleton, List.not_mem_nil, or_false] at hx
                  rcases hx with rfl | rfl
                  · exact ⟨_, _, _, rfl, get_zero_app⟩
                  · exact ⟨_, _, _, rfl, get_zero_app⟩
                refine runD_n (z := false) 3 (fun K' hK' => hK' _ _ _ _ ?_) (by decide)
                clear hK' K'
                refine W_known 65 (b := false) (bb (by simp)) ?_
                refine runD_n (z := false) 2 (fun K' hK' => hK' _ _ _ _ ?_) (by decide)
                clear hK' K'
                refine runD_fc (fun _ => (2 + 1, 0)) (p39u (N 2) (Q 2) (C 2) (hN 2) (hC 2)) (hasF ⟨sf_winp (c1 := rws rc (Q 2)) (t1 := 0) (own := false) (rcs_plain _) rfl get_zero, trivial⟩ rfl) rfl rfl (congrArg (fun x => [Value.agg #[x]]) (idq_ren (N 2) (Q 2) (2 + 1) (C 2)).symm) rfl ⟨_, _, _, Nat.le_refl _, rfl, rfl⟩ (by rintro _ _ ⟨_, _, rfl, rfl⟩; rfl) ?_
                rintro _ _ ⟨cc, hcc, rfl, rfl⟩
                rw [renU_c (renB_p (spare_plain _ _)) renU_nil]
                simp only [← hq]
                refine runD_ro (fun k => if k = 0 then (16, 0) else (47, 0)) (same_ro q ca cc (by omega)) ?_ rfl rfl rfl rfl rfl ?_
                · intro x hx
                  simp only [List.mem_cons, List.mem_singleton, List.not_mem_nil, or_false] at hx
                  rcases hx with rfl | rfl
                  · exact ⟨_, _, _, rfl, get_zero_app⟩
                  · exact ⟨_, _, _, rfl, get_zero_app⟩
                refine runD_end (z := false) fun K' hK' => hK' _ _ _ _ (hK _ _ _ ?_)
                clear hK' K' hK K
                refine vc_cond (t := false) rfl (fun h => by cases h) (fun _ => ?_)
                refine vc_skip ?_
                exact ⟨rfl, _, fg_focus [(0, .slice (some ⟨0, 0, none⟩) n cap), (1, .slice none 0 0), (4, .bool false), (25, .slice (some ⟨0, 0, none⟩) n cap), (26, .int .i64 (n : Int)), (27, .int .i64 ((2 : Nat) : Int)), (7, .pointer (some ⟨21, 0, none⟩)), (9, .bool false)] [(0, .cells (rws (cq N Q C) (List.range m)) 0 false), (1, .cells (rws rc (Q 0)) 0 false), (2, .cells (rws rc (Q 1)) 0 false), (3, .cells (rws rc (Q 2)) 0 false), (4, .cells (rws rc (Q 3)) 0 false), (5, .cells (rws rc (Q 4)) 0 false), (6, .cells (rws rc (Q 5)) 0 false), (7, .cells (rws rc (Q 6)) 0 false), (8, .cells (rws rc (Q 7)) 0 false), (9, .cells (rws rc (Q 8)) 0 false), (10, .cells (rws rc R) 0 false), (16, .cells (rws rc q ++ sp) 67 true), (21, .cells [.slice (some ⟨16, 0, none⟩) q.length ca] 55 true)] 23 (by decide) ⟨rfl, rfl, rfl, rfl, rfl, rfl, rfl, rfl, trivial⟩ ⟨sb rfl, sb rfl, sb rfl, sb rfl, sb rfl, sb rfl, sb rfl, sb rfl, sb rfl, sb rfl, sb rfl, sb rfl, sb rfl, trivial⟩ rfl (bdH_b (by decide) (row_bd fun k hk => by have := List.mem_range.1 hk; omega) (bdH_c (by decide) (rcs_plain (Q 0)) (bdH_c (by decide) (rcs_plain (Q 1)) (bdH_c (by decide) (rcs_plain (Q 2)) (bdH_c (by decide) (rcs_plain (Q 3)) (bdH_c (by decide) (rcs_plain (Q 4)) (bdH_c (by decide) (rcs_plain (Q 5)) (bdH_c (by decide) (rcs_plain (Q 6)) (bdH_c (by decide) (rcs_plain (Q 7)) (bdH_c (by decide) (rcs_plain (Q 8)) (bdH_c (by decide) (rcs_plain R) (bdH_c (by decide) (plainL_append (rcs_plain _) hsp) (bdH_b (by decide) rfl rfl))))))))))))), rfl⟩
              · skip
                refine vc_regD [(15, 16), (15, 17), (22, 24)] (by kernel_rfl) (by kernel_rfl) fun K hK => ?_
                refine runD_n (z := false) 5 (fun K' hK' => hK' _ _ _ _ ?_) (by decide)
                clear hK' K'
                refine W_known 48 (b := false) (rfl) ?_
                refine runD_n (z := false) 3 (fun K' hK' => hK' _ _ _ _ ?_) (by decide)
                clear hK' K'
                refine W_known 51 (b := true) (rfl) ?_
                refine runD_n (z := false) 5 (fun K' hK' => hK' _ _ _ _ ?_) (by decide)
                clear hK' K'
                refine W_known 56 (b := false) (rfl) ?_
                refine runD_n (z := false) 2 (fun K' hK' => hK' _ _ _ _ ?_) (by decide)
                clear hK' K'
                refine runD_ro (fun k => if k = 0 then (16, 0) else (20, 0)) h45 ?_ rfl rfl rfl rfl rfl ?_
                · intro x hx
                  simp only [List.mem_cons, List.mem_singleton, List.not_mem_nil, or_false] at hx
                  rcases hx with rfl | rfl
                  · exact ⟨_, _, _, rfl, get_zero_app⟩
                  · exact ⟨_, _, _, rfl, get_zero_app⟩
                refine runD_n (z := false) 2 (fun K' hK' => hK' _ _ _ _ ?_) (by decide)
                clear hK' K'
                refine runD_ro (fun k => if k = 0 then (16, 0) else (20, 0)) h72 ?_ rfl rfl rfl rfl rfl ?_
                · intro x hx
                  simp only [List.mem_cons, List.mem_singleton, List.not_mem_nil, or_false] at hx
                  rcases hx with rfl | rfl
                  · exact ⟨_, _, _, rfl, get_zero_app⟩
                  · exact ⟨_, _, _, rfl, get_zero_app⟩
                refine runD_n (z := false) 3 (fun K' hK' => hK' _ _ _ _ ?_) (by decide)
                clear hK' K'
                refine W_known 65 (b := false) (bb (by simp)) ?_
                refine runD_n (z := false) 2 (fun K' hK' => hK' _ _ _ _ ?_) (by decide)
                clear hK' K'
                refine runD_fc (fun _ => (3 + 1, 0)) (p39u (N 3) (Q 3) (C 3) (hN 3) (hC 3)) (hasF ⟨sf_winp (c1 := rws rc (Q 3)) (t1 := 0) (own := false) (rcs_plain _) rfl get_zero, trivial⟩ rfl) rfl rfl (congrArg (fun x => [Value.agg #[x]]) (idq_ren (N 3) (Q 3) (3 + 1) (C 3)).symm) rfl ⟨_, _, _, Nat.le_refl _, rfl, rfl⟩ (by rintro _ _ ⟨_, _, rfl, rfl⟩; rfl) ?_
                rintro _ _ ⟨cc, hcc, rfl, rfl⟩
                rw [renU_c (renB_p (spare_plain _ _)) renU_nil]
                simp only [← hq]
                refine runD_ro (fun k => if k = 0 then (16, 0) else (47, 0)) (same_ro q ca cc (by omega)) ?_ rfl rfl rfl rfl rfl ?_
                · intro x hx
                  simp only [List.mem_cons, List.mem_singleton, List.not_mem_nil, or_false] at hx
                  rcases hx with rfl | rfl
                  · exact ⟨_, _, _, rfl, get_zero_app⟩
                  · exact ⟨_, _, _, rfl, get_zero_app⟩
                refine runD_end (z := false) fun K' hK' => hK' _ _ _ _ (hK _ _ _ ?_)
                clear hK' K' hK K
                refine vc_cond (t := false) rfl (fun h => by cases h) (fun _ => ?_)
                refine vc_skip ?_
                exact ⟨rfl, _, fg_focus [(0, .slice (some ⟨0, 0, none⟩) n cap), (1, .slice none 0 0), (4, .bool false), (25, .slice (some ⟨0, 0, none⟩) n cap), (26, .int .i64 (n : Int)), (27, .int .i64 ((3 : Nat) : Int)), (7, .pointer (some ⟨21, 0, none⟩)), (9, .bool false)] [(0, .cells (rws (cq N Q C) (List.range m)) 0 false), (1, .cells (rws rc (Q 0)) 0 false), (2, .cells (rws rc (Q 1)) 0 false), (3, .cells (rws rc (Q 2)) 0 false), (4, .cells (rws rc (Q 3)) 0 false), (5, .cells (rws rc (Q 4)) 0 false), (6, .cells (rws rc (Q 5)) 0 false), (7, .cells (rws rc (Q 6)) 0 false), (8, .cells (rws rc (Q 7)) 0 false), (9, .cells (rws rc (Q 8)) 0 false), (10, .cells (rws rc R) 0 false), (16, .cells (rws rc q ++ sp) 67 true), (21, .cells [.slice (some ⟨16, 0, none⟩) q.length ca] 55 true)] 23 (by decide) ⟨rfl, rfl, rfl, rfl, rfl, rfl, rfl, rfl, trivial⟩ ⟨sb rfl, sb rfl, sb rfl, sb rfl, sb rfl, sb rfl, sb rfl, sb rfl, sb rfl, sb rfl, sb rfl, sb rfl, sb rfl, trivial⟩ rfl (bdH_b (by decide) (row_bd fun k hk => by have := List.mem_range.1 hk; omega) (bdH_c (by decide) (rcs_plain (Q 0)) (bdH_c (by decide) (rcs_plain (Q 1)) (bdH_c (by decide) (rcs_plain (Q 2)) (bdH_c (by decide) (rcs_plain (Q 3)) (bdH_c (by decide) (rcs_plain (Q 4)) (bdH_c (by decide) (rcs_plain (Q 5)) (bdH_c (by decide) (rcs_plain (Q 6)) (bdH_c (by decide) (rcs_plain (Q 7)) (bdH_c (by decide) (rcs_plain (Q 8)) (bdH_c (by decide) (rcs_plain R) (bdH_c (by decide) (plainL_append (rcs_plain _) hsp) (bdH_b (by decide) rfl rfl))))))))))))), rfl⟩
              · skip
                refine vc_regD [(15, 16), (15, 17), (22, 24)] (by kernel_rfl) (by kernel_rfl) fun K hK => ?_
                refine runD_n (z := false) 5 (fun K' hK' => hK' _ _ _ _ ?_) (by decide)
                clear hK' K'
                refine W_known 48 (b := false) (rfl) ?_
                refine runD_n (z := false) 3 (fun K' hK' => hK' _ _ _ _ ?_) (by decide)
                clear hK' K'
                refine W_known 51 (b := true) (rfl) ?_
                refine runD_n (z := false) 5 (fun K' hK' => hK' _ _ _ _ ?_) (by decide)
                clear hK' K'
                refine W_known 56 (b := false) (rfl) ?_
                refine runD_n (z := false) 2 (fun K' hK' => hK' _ _ _ _ ?_) (by decide)
                clear hK' K'
                refine runD_ro (fun k => if k = 0 then (16, 0) else (20, 0)) h45 ?_ rfl rfl rfl rfl rfl ?_
                · intro x hx
                  simp only [List.mem_cons, List.mem_singleton, List.not_mem_nil, or_false] at hx
                  rcases hx with rfl | rfl
                  · exact ⟨_, _, _, rfl, get_zero_app⟩
                  · exact ⟨_, _, _, rfl, get_zero_app⟩
                refine runD_n (z := false) 2 (fun K' hK' => hK' _ _ _ _ ?_) (by decide)
                clear hK' K'
                refine runD_ro (fun k => if k = 0 then (16, 0) else (20, 0)) h72 ?_ rfl rfl rfl rfl rfl ?_
                · intro x hx
                  simp only [List.mem_cons, List.mem_singleton, List.not_mem_nil, or_false] at hx
                  rcases hx with rfl | rfl
                  · exact ⟨_, _, _, rfl, get_zero_app⟩
                  · exact ⟨_, _, _, rfl, get_zero_app⟩
                refine runD_n (z := false) 3 (fun K' hK' => hK' _ _ _ _ ?_) (by decide)
                clear hK' K'
                refine W_known 65 (b := false) (bb (by simp)) ?_
                refine runD_n (z := false) 2 (fun K' hK' => hK' _ _ _ _ ?_) (by decide)
                clear hK' K'
                refine runD_fc (fun _ => (4 + 1, 0)) (p39u (N 4) (Q 4) (C 4) (hN 4) (hC 4)) (hasF ⟨sf_winp (c1 := rws rc (Q 4)) (t1 := 0) (own := false) (rcs_plain _) rfl get_zero, trivial⟩ rfl) rfl rfl (congrArg (fun x => [Value.agg #[x]]) (idq_ren (N 4) (Q 4) (4 + 1) (C 4)).symm) rfl ⟨_, _, _, Nat.le_refl _, rfl, rfl⟩ (by rintro _ _ ⟨_, _, rfl, rfl⟩; rfl) ?_
                rintro _ _ ⟨cc, hcc, rfl, rfl⟩
                rw [renU_c (renB_p (spare_plain _ _)) renU_nil]
                simp only [← hq]
                refine runD_ro (fun k => if k = 0 then (16, 0) else (47, 0)) (same_ro q ca cc (by omega)) ?_ rfl rfl rfl rfl rfl ?_
                · intro x hx
                  simp only [List.mem_cons, List.mem_singleton, List.not_mem_nil, or_false] at hx
                  rcases hx with rfl | rfl
                  · exact ⟨_, _, _, rfl, get_zero_app⟩
                  · exact ⟨_, _, _, rfl, get_zero_app⟩
                refine runD_end (z := false) fun K' hK' => hK' _ _ _ _ (hK _ _ _ ?_)
                clear hK' K' hK K
                refine vc_cond (t := false) rfl (fun h => by cases h) (fun _ => ?_)
                refine vc_skip ?_
                exact ⟨rfl, _, fg_focus [(0, .slice (some ⟨0, 0, none⟩) n cap), (1, .slice none 0 0), (4, .bool false), (25, .slice (some ⟨0, 0, none⟩) n cap), (26, .int .i64 (n : Int)), (27, .int .i64 ((4 : Nat) : Int)), (7, .pointer (some ⟨21, 0, none⟩)), (9, .bool false)] [(0, .cells (rws (cq N Q C) (List.range m)) 0 false), (1, .cells (rws rc (Q 0)) 0 false), (2, .cells (rws rc (Q 1)) 0 false), (3, .cells (rws rc (Q 2)) 0 false), (4, .cells (rws rc (Q 3)) 0 false), (5, .cells (rws rc (Q 4)) 0 false), (6, .cells (rws rc (Q 5)) 0 false), (7, .cells (rws rc (Q 6)) 0 false), (8, .cells (rws rc (Q 7)) 0 false), (9, .cells (rws rc (Q 8)) 0 false), (10, .cells (rws rc R) 0 false), (16, .cells (rws rc q ++ sp) 67 true), (21, .cells [.slice (some ⟨16, 0, none⟩) q.length ca] 55 true)] 23 (by decide) ⟨rfl, rfl, rfl, rfl, rfl, rfl, rfl, rfl, trivial⟩ ⟨sb rfl, sb rfl, sb rfl, sb rfl, sb rfl, sb rfl, sb rfl, sb rfl, sb rfl, sb rfl, sb rfl, sb rfl, sb rfl, trivial⟩ rfl (bdH_b (by decide) (row_bd fun k hk => by have := List.mem_range.1 hk; omega) (bdH_c (by decide) (rcs_plain (Q 0)) (bdH_c (by decide) (rcs_plain (Q 1)) (bdH_c (by decide) (rcs_plain (Q 2)) (bdH_c (by decide) (rcs_plain (Q 3)) (bdH_c (by decide) (rcs_plain (Q 4)) (bdH_c (by decide) (rcs_plain (Q 5)) (bdH_c (by decide) (rcs_plain (Q 6)) (bdH_c (by decide) (rcs_plain (Q 7)) (bdH_c (by decide) (rcs_plain (Q 8)) (bdH_c (by decide) (rcs_plain R) (bdH_c (by decide) (plainL_append (rcs_plain _) hsp) (bdH_b (by decide) rfl rfl))))))))))))), rfl⟩
              · skip
                refine vc_regD [(15, 16), (15, 17), (22, 24)] (by kernel_rfl) (by kernel_rfl) fun K hK => ?_
                refine runD_n (z := false) 5 (fun K' hK' => hK' _ _ _ _ ?_) (by decide)
                clear hK' K'
                refine W_known 48 (b := false) (rfl) ?_
                refine runD_n (z := false) 3 (fun K' hK' => hK' _ _ _ _ ?_) (by decide)
                clear hK' K'
                refine W_known 51 (b := true) (rfl) ?_
                refine runD_n (z := false) 5 (fun K' hK' => hK' _ _ _ _ ?_) (by decide)
                clear hK' K'
                refine W_known 56 (b := false) (rfl) ?_
                refine runD_n (z := false) 2 (fun K' hK' => hK' _ _ _ _ ?_) (by decide)
                clear hK' K'
                refine runD_ro (fun k => if k = 0 then (16, 0) else (20, 0)) h45 ?_ rfl rfl rfl rfl rfl ?_
                · intro x hx
                  simp only [List.mem_cons, List.mem_singleton, List.not_mem_nil, or_false] at hx
                  rcases hx with rfl | rfl
                  · exact ⟨_, _, _, rfl, get_zero_app⟩
                  · exact ⟨_, _, _, rfl, get_zero_app⟩
                refine runD_n (z := false) 2 (fun K' hK' => hK' _ _ _ _ ?_) (by decide)
                clear hK' K'
                refine runD_ro (fun k => if k = 0 then (16, 0) else (20, 0)) h72 ?_ rfl rfl rfl rfl rfl ?_
                · intro x hx
                  simp only [List.mem_cons, List.mem_singleton, List.not_mem_nil, or_false] at hx
                  rcases hx with rfl | rfl
                  · exact ⟨_, _, _, rfl, get_zero_app⟩
                  · exact ⟨_, _, _, rfl, get_zero_app⟩
                refine runD_n (z := false) 3 (fun K' hK' => hK' _ _ _ _ ?_) (by decide)
                clear hK' K'
                refine W_known 65 (b := false) (bb (by simp)) ?_
                refine runD_n (z := false) 2 (fun K' hK' => hK' _ _ _ _ ?_) (by decide)
                clear hK' K'
                refine runD_fc (fun _ => (5 + 1, 0)) (p39u (N 5) (Q 5) (C 5) (hN 5) (hC 5)) (hasF ⟨sf_winp (c1 := rws rc (Q 5)) (t1 := 0) (own := false) (rcs_plain _) rfl get_zero, trivial⟩ rfl) rfl rfl (congrArg (fun x => [Value.agg #[x]]) (idq_ren (N 5) (Q 5) (5 + 1) (C 5)).symm) rfl ⟨_, _, _, Nat.le_refl _, rfl, rfl⟩ (by rintro _ _ ⟨_, _, rfl, rfl⟩; rfl) ?_
                rintro _ _ ⟨cc, hcc, rfl, rfl⟩
                rw [renU_c (renB_p (spare_plain _ _)) renU_nil]
                simp only [← hq]
                refine runD_ro (fun k => if k = 0 then (16, 0) else (47, 0)) (same_ro q ca cc (by omega)) ?_ rfl rfl rfl rfl rfl ?_
                · intro x hx
                  simp only [List.mem_cons, List.mem_singleton, List.not_mem_nil, or_false] at hx
                  rcases hx with rfl | rfl
                  · exact ⟨_, _, _, rfl, get_zero_app⟩
                  · exact ⟨_, _, _, rfl, get_zero_app⟩
                refine runD_end (z := false) fun K' hK' => hK' _ _ _ _ (hK _ _ _ ?_)
                clear hK' K' hK K
                refine vc_cond (t := false) rfl (fun h => by cases h) (fun _ => ?_)
                refine vc_skip ?_
                exact ⟨rfl, _, fg_focus [(0, .slice (some ⟨0, 0, none⟩) n cap), (1, .slice none 0 0), (4, .bool false), (25, .slice (some ⟨0, 0, none⟩) n cap), (26, .int .i64 (n : Int)), (27, .int .i64 ((5 : Nat) : Int)), (7, .pointer (some ⟨21, 0, none⟩)), (9, .bool false)] [(0, .cells (rws (cq N Q C) (List.range m)) 0 false), (1, .cells (rws rc (Q 0)) 0 false), (2, .cells (rws rc (Q 1)) 0 false), (3, .cells (rws rc (Q 2)) 0 false), (4, .cells (rws rc (Q 3)) 0 false), (5, .cells (rws rc (Q 4)) 0 false), (6, .cells (rws rc (Q 5)) 0 false), (7, .cells (rws rc (Q 6)) 0 false), (8, .cells (rws rc (Q 7)) 0 false), (9, .cells (rws rc (Q 8)) 0 false), (10, .cells (rws rc R) 0 false), (16, .cells (rws rc q ++ sp) 67 true), (21, .cells [.slice (some ⟨16, 0, none⟩) q.length ca] 55 true)] 23 (by decide) ⟨rfl, rfl, rfl, rfl, rfl, rfl, rfl, rfl, trivial⟩ ⟨sb rfl, sb rfl, sb rfl, sb rfl, sb rfl, sb rfl, sb rfl, sb rfl, sb rfl, sb rfl, sb rfl, sb rfl, sb rfl, trivial⟩ rfl (bdH_b (by decide) (row_bd fun k hk => by have := List.mem_range.1 hk; omega) (bdH_c (by decide) (rcs_plain (Q 0)) (bdH_c (by decide) (rcs_plain (Q 1)) (bdH_c (by decide) (rcs_plain (Q 2)) (bdH_c (by decide) (rcs_plain (Q 3)) (bdH_c (by decide) (rcs_plain (Q 4)) (bdH_c (by decide) (rcs_plain (Q 5)) (bdH_c (by decide) (rcs_plain (Q 6)) (bdH_c (by decide) (rcs_plain (Q 7)) (bdH_c (by decide) (rcs_plain (Q 8)) (bdH_c (by decide) (rcs_plain R) (bdH_c (by decide) (plainL_append (rcs_plain _) hsp) (bdH_b (by decide) rfl rfl))))))))))))), rfl⟩
              · skip
                refine vc_regD [(15, 16), (15, 17), (22, 24)] (by kernel_rfl) (by kernel_rfl) fun K hK => ?_
                refine runD_n (z := false) 5 (fun K' hK' => hK' _ _ _ _ ?_) (by decide)
                clear hK' K'
                refine W_known 48 (b := false) (rfl) ?_
                refine runD_n (z := false) 3 (fun K' hK' => hK' _ _ _ _ ?_) (by decide)
                clear hK' K'
                refine W_known 51 (b := true) (rfl) ?_
                refine runD_n (z := false) 5 (fun K' hK' => hK' _ _ _ _ ?_) (by decide)
                clear hK' K'
                refine W_known 56 (b := false) (rfl) ?_
                refine runD_n (z := false) 2 (fun K' hK' => hK' _ _ _ _ ?_) (by decide)
                clear hK' K'
                refine runD_ro (fun k => if k = 0 then (16, 0) else (20, 0)) h45 ?_ rfl rfl rfl rfl rfl ?_
                · intro x hx
                  simp only [List.mem_cons, List.mem_singleton, List.not_mem_nil, or_false] at hx
                  rcases hx with rfl | rfl
                  · exact ⟨_, _, _, rfl, get_zero_app⟩
                  · exact ⟨_, _, _, rfl, get_zero_app⟩
                refine runD_n (z := false) 2 (fun K' hK' => hK' _ _ _ _ ?_) (by decide)
                clear hK' K'
                refine runD_ro (fun k => if k = 0 then (16, 0) else (20, 0)) h72 ?_ rfl rfl rfl rfl rfl ?_
                · intro x hx
                  simp only [List.mem_cons, List.mem_singleton, List.not_mem_nil, or_false] at hx
                  rcases hx with rfl | rfl
                  · exact ⟨_, _, _, rfl, get_zero_app⟩
                  · exact ⟨_, _, _, rfl, get_zero_app⟩
                refine runD_n (z := false) 3 (fun K' hK' => hK' _ _ _ _ ?_) (by decide)
                clear hK' K'
                refine W_known 65 (b := false) (bb (by simp)) ?_
                refine runD_n (z := false) 2 (fun K' hK' => hK' _ _ _ _ ?_) (by decide)
                clear hK' K'
                refine runD_fc (fun _ => (6 + 1, 0)) (p39u (N 6) (Q 6) (C 6) (hN 6) (hC 6)) (hasF ⟨sf_winp (c1 := rws rc (Q 6)) (t1 := 0) (own := false) (rcs_plain _) rfl get_zero, trivial⟩ rfl) rfl rfl (congrArg (fun x => [Value.agg #[x]]) (idq_ren (N 6) (Q 6) (6 + 1) (C 6)).symm) rfl ⟨_, _, _, Nat.le_refl _, rfl, rfl⟩ (by rintro _ _ ⟨_, _, rfl, rfl⟩; rfl) ?_
                rintro _ _ ⟨cc, hcc, rfl, rfl⟩
                rw [renU_c (renB_p (spare_plain _ _)) renU_nil]
                simp only [← hq]
                refine runD_ro (fun k => if k = 0 then (16, 0) else (47, 0)) (same_ro q ca cc (by omega)) ?_ rfl rfl rfl rfl rfl ?_
                · intro x hx
                  simp only [List.mem_cons, List.mem_singleton, List.not_mem_nil, or_false] at hx
                  rcases hx with rfl | rfl
                  · exact ⟨_, _, _, rfl, get_zero_app⟩
                  · exact ⟨_, _, _, rfl, get_zero_app⟩
                refine runD_end (z := false) fun K' hK' => hK' _ _ _ _ (hK _ _ _ ?_)
                clear hK' K' hK K
                refine vc_cond (t := false) rfl (fun h => by cases h) (fun _ => ?_)
                refine vc_skip ?_
                exact ⟨rfl, _, fg_focus [(0, .slice (some ⟨0, 0, none⟩) n cap), (1, .slice none 0 0), (4, .bool false), (25, .slice (some ⟨0, 0, none⟩) n cap), (26, .int .i64 (n : Int)), (27, .int .i64 ((6 : Nat) : Int)), (7, .pointer (some ⟨21, 0, none⟩)), (9, .bool false)] [(0, .cells (rws (cq N Q C) (List.range m)) 0 false), (1, .cells (rws rc (Q 0)) 0 false), (2, .cells (rws rc (Q 1)) 0 false), (3, .cells (rws rc (Q 2)) 0 false), (4, .cells (rws rc (Q 3)) 0 false), (5, .cells (rws rc (Q 4)) 0 false), (6, .cells (rws rc (Q 5)) 0 false), (7, .cells (rws rc (Q 6)) 0 false), (8, .cells (rws rc (Q 7)) 0 false), (9, .cells (rws rc (Q 8)) 0 false), (10, .cells (rws rc R) 0 false), (16, .cells (rws rc q ++ sp) 67 true), (21, .cells [.slice (some ⟨16, 0, none⟩) q.length ca] 55 true)] 23 (by decide) ⟨rfl, rfl, rfl, rfl, rfl, rfl, rfl, rfl, trivial⟩ ⟨sb rfl, sb rfl, sb rfl, sb rfl, sb rfl, sb rfl, sb rfl, sb rfl, sb rfl, sb rfl, sb rfl, sb rfl, sb rfl, trivial⟩ rfl (bdH_b (by decide) (row_bd fun k hk => by have := List.mem_range.1 hk; omega) (bdH_c (by decide) (rcs_plain (Q 0)) (bdH_c (by decide) (rcs_plain (Q 1)) (bdH_c (by decide) (rcs_plain (Q 2)) (bdH_c (by decide) (rcs_plain (Q 3)) (bdH_c (by decide) (rcs_plain (Q 4)) (bdH_c (by decide) (rcs_plain (Q 5)) (bdH_c (by decide) (rcs_plain (Q 6)) (bdH_c (by decide) (rcs_plain (Q 7)) (bdH_c (by decide) (rcs_plain (Q 8)) (bdH_c (by decide) (rcs_plain R) (bdH_c (by decide) (plainL_append (rcs_plain _) hsp) (bdH_b (by decide) rfl rfl))))))))))))), rfl⟩
              · skip
                refine vc_regD [(15, 16), (15, 17), (22, 24)] (by kernel_rfl) (by kernel_rfl) fun K hK => ?_
                refine runD_n (z := false) 5 (fun K' hK' => hK' _ _ _ _ ?_) (by decide)
                clear hK' K'
                refine W_known 48 (b := false) (rfl) ?_
                refine runD_n (z := false) 3 (fun K' hK' => hK' _ _ _ _ ?_) (by decide)
                clear hK' K'
                refine W_known 51 (b := true) (rfl) ?_
                refine runD_n (z := false) 5 (fun K' hK' => hK' _ _ _ _ ?_) (by decide)
                clear hK' K'
                refine W_known 56 (b := false) (rfl) ?_
                refine runD_n (z := false) 2 (fun K' hK' => hK' _ _ _ _ ?_) (by decide)
                clear hK' K'
                refine runD_ro (fun k => if k = 0 then (16, 0) else (20, 0)) h45 ?_ rfl rfl rfl rfl rfl ?_
                · intro x hx
                  simp only [List.mem_cons, List.mem_singleton, List.not_mem_nil, or_false] at hx
                  rcases hx with rfl | rfl
                  · exact ⟨_, _, _, rfl, get_zero_app⟩
                  · exact ⟨_, _, _, rfl, get_zero_app⟩
                refine runD_n (z := false) 2 (fun K' hK' => hK' _ _ _ _ ?_) (by decide)
                clear hK' K'
                refine runD_ro (fun k => if k = 0 then (16, 0) else (20, 0)) h72 ?_ rfl rfl rfl rfl rfl ?_
                · intro x hx
                  simp only [List.mem_cons, List.mem_singleton, List.not_mem_nil, or_false] at hx
                  rcases hx with rfl | rfl
                  · exact ⟨_, _, _, rfl, get_zero_app⟩
                  · exact ⟨_, _, _, rfl, get_zero_app⟩
                refine runD_n (z := false) 3 (fun K' hK' => hK' _ _ _ _ ?_) (by decide)
                clear hK' K'
                refine W_known 65 (b := false) (bb (by simp)) ?_
                refine runD_n (z := false) 2 (fun K' hK' => hK' _ _ _ _ ?_) (by decide)
                clear hK' K'
                refine runD_fc (fun _ => (7 + 1, 0)) (p39u (N 7) (Q 7) (C 7) (hN 7) (hC 7)) (hasF ⟨sf_winp (c1 := rws rc (Q 7)) (t1 := 0) (own := false) (rcs_plain _) rfl get_zero, trivial⟩ rfl) rfl rfl (congrArg (fun x => [Value.agg #[x]]) (idq_ren (N 7) (Q 7) (7 + 1) (C 7)).symm) rfl ⟨_, _, _, Nat.le_refl _, rfl, rfl⟩ (by rintro _ _ ⟨_, _, rfl, rfl⟩; rfl) ?_
                rintro _ _ ⟨cc, hcc, rfl, rfl⟩
                rw [renU_c (renB_p (spare_plain _ _)) renU_nil]
                simp only [← hq]
                refine runD_ro (fun k => if k = 0 then (16, 0) else (47, 0)) (same_ro q ca cc (by omega)) ?_ rfl rfl rfl rfl rfl ?_
                · intro x hx
                  simp only [List.mem_cons, List.mem_singleton, List.not_mem_nil, or_false] at hx
                  rcases hx with rfl | rfl
                  · exact ⟨_, _, _, rfl, get_zero_app⟩
                  · exact ⟨_, _, _, rfl, get_zero_app⟩
                refine runD_end (z := false) fun K' hK' => hK' _ _ _ _ (hK _ _ _ ?_)
                clear hK' K' hK K
                refine vc_cond (t := false) rfl (fun h => by cases h) (fun _ => ?_)
                refine vc_skip ?_
                exact ⟨rfl, _, fg_focus [(0, .slice (some ⟨0, 0, none⟩) n cap), (1, .slice none 0 0), (4, .bool false), (25, .slice (some ⟨0, 0, none⟩) n cap), (26, .int .i64 (n : Int)), (27, .int .i64 ((7 : Nat) : Int)), (7, .pointer (some ⟨21, 0, none⟩)), (9, .bool false)] [(0, .cells (rws (cq N Q C) (List.range m)) 0 false), (1, .cells (rws rc (Q 0)) 0 false), (2, .cells (rws rc (Q 1)) 0 false), (3, .cells (rws rc (Q 2)) 0 false), (4, .cells (rws rc (Q 3)) 0 false), (5, .cells (rws rc (Q 4)) 0 false), (6, .cells (rws rc (Q 5)) 0 false), (7, .cells (rws rc (Q 6)) 0 false), (8, .cells (rws rc (Q 7)) 0 false), (9, .cells (rws rc (Q 8)) 0 false), (10, .cells (rws rc R) 0 false), (16, .cells (rws rc q ++ sp) 67 true), (21, .cells [.slice (some ⟨16, 0, none⟩) q.length ca] 55 true)] 23 (by decide) ⟨rfl, rfl, rfl, rfl, rfl, rfl, rfl, rfl, trivial⟩ ⟨sb rfl, sb rfl, sb rfl, sb rfl, sb rfl, sb rfl, sb rfl, sb rfl, sb rfl, sb rfl, sb rfl, sb rfl, sb rfl, trivial⟩ rfl (bdH_b (by decide) (row_bd fun k hk => by have := List.mem_range.1 hk; omega) (bdH_c (by decide) (rcs_plain (Q 0)) (bdH_c (by decide) (rcs_plain (Q 1)) (bdH_c (by decide) (rcs_plain (Q 2)) (bdH_c (by decide) (rcs_plain (Q 3)) (bdH_c (by decide) (rcs_plain (Q 4)) (bdH_c (by decide) (rcs_plain (Q 5)) (bdH_c (by decide) (rcs_plain (Q 6)) (bdH_c (by decide) (rcs_plain (Q 7)) (bdH_c (by decide) (rcs_plain (Q 8)) (bdH_c (by decide) (rcs_plain R) (bdH_c (by decide) (plainL_append (rcs_plain _) hsp) (bdH_b (by decide) rfl rfl))))))))))))), rfl⟩
            · skip
              rintro s2 rfl
              have h40 := p40 q ca (by omega)
              rw [topQ_no hokq] at h40
              have h73 := p73 q ca (by omega) (by rw [hq]; exact fun r hr => hB i r (List.mem_of_mem_take hr))
              refine vc_seq ?_
              refine vc_reg (by kernel_rfl) fun K hK => ?_
              refine run_n (z := false) 1 (fun K' hK' => hK' _ _ _ ?_) (by decide)
              clear hK' K'
              refine run_ro (fun _ => (16, 0)) (h40) ?_ rfl rfl rfl rfl ?_
              · intro x hx
                simp only [List.mem_singleton] at hx
                subst hx
                exact ⟨_, _, _, rfl, get_zero_app⟩
              refine run_end (z := false) fun K' hK' => hK' _ _ _ (hK _ _ _ ?_)
              clear hK' K' hK K
              refine vc_seq ?_
              refine vc_reg (by kernel_rfl) fun K hK => ?_
              refine run_n (z := false) 1 (fun K' hK' => hK' _ _ _ ?_) (by decide)
              clear hK' K'
              refine run_ro (fun _ => (16, 0)) (h73) ?_ rfl rfl rfl rfl ?_
              · intro x hx
                simp only [List.mem_singleton] at hx
                subst hx
                exact ⟨_, _, _, rfl, get_zero_app⟩
              refine run_end (z := false) fun K' hK' => hK' _ _ _ (hK _ _ _ ?_)
              clear hK' K' hK K
              refine vc_seq ?_
              refine vc_seq ?_
              refine vc_reg (by kernel_rfl) fun K hK => ?_
              refine run_n (z := false) 2 (fun K' hK' => hK' _ _ _ ?_) (by decide)
              clear hK' K'
              refine vgo_known 83 (b := false) (rfl) ?_
              refine run_n (z := false) 10 (fun K' hK' => hK' _ _ _ ?_) (by decide)
              clear hK' K'
              refine vgo_known 93 (b := false) (rfl) ?_
              refine run_n (z := false) 3 (fun K' hK' => hK' _ _ _ ?_) (by decide)
              clear hK' K'
              refine vgo_known 96 (b := true) (rfl) ?_
              refine run_n (z := false) 4 (fun K' hK' => hK' _ _ _ ?_) (by decide)
              clear hK' K'
              refine vgo_known 100 (b := false) (rfl) ?_
              refine run_end (z := false) fun K' hK' => hK' _ _ _ (hK _ _ _ ?_)
              clear hK' K' hK K
              refine vc_cond (t := false) rfl (fun h => by cases h) (fun _ => ?_)
              refine vc_skip ?_
              refine vc_seq ?_
              refine vc_go (by kernel_rfl) fun K hK => hK _ _ _ ?_
              clear hK K
              refine vc_block ?_
              refine vc_loopF (fun k s => ∃ (j : Nat), k = 18 - j ∧ j ≤ 18 ∧ s = can [(0, .slice (some ⟨0, 0, none⟩) n cap), (1, .slice none 0 0), (4, .bool false), (25, .slice (some ⟨0, 0, none⟩) n cap), (26, .int .i64 (n : Int)), (27, .int .i64 ((i : Nat) : Int)), (7, .pointer (some ⟨21, 0, none⟩)), (9, .bool false), (105, .int .i64 ((j : Nat) : Int))] [(0, .cells (rws (cq N Q C) (List.range m)) 0 false), (1, .cells (rws rc (Q 0)) 0 false), (2, .cells (rws rc (Q 1)) 0 false), (3, .cells (rws rc (Q 2)) 0 false), (4, .cells (rws rc (Q 3)) 0 false), (5, .cells (rws rc (Q 4)) 0 false), (6, .cells (rws rc (Q 5)) 0 false), (7, .cells (rws rc (Q 6)) 0 false), (8, .cells (rws rc (Q 7)) 0 false), (9, .cells (rws rc (Q 8)) 0 false), (10, .cells (rws rc R) 0 false), (16, .cells (rws rc q ++ sp) 67 true), (21, .cells [.slice (some ⟨16, 0, none⟩) q.length ca] 55 true)] 23) 18 ?_ ?_
              · exact ⟨_, fg_focus [(0, .slice (some ⟨0, 0, none⟩) n cap), (1, .slice none 0 0), (4, .bool false), (25, .slice (some ⟨0, 0, none⟩) n cap), (26, .int .i64 (n : Int)), (27, .int .i64 ((i : Nat) : Int)), (7, .pointer (some ⟨21, 0, none⟩)), (9, .bool false), (105, .int .i64 ((0 : Nat) : Int))] [(0, .cells (rws (cq N Q C) (List.range m)) 0 false), (1, .cells (rws rc (Q 0)) 0 false), (2, .cells (rws rc (Q 1)) 0 false), (3, .cells (rws rc (Q 2)) 0 false), (4, .cells (rws rc (Q 3)) 0 false), (5, .cells (rws rc (Q 4)) 0 false), (6, .cells (rws rc (Q 5)) 0 false), (7, .cells (rws rc (Q 6)) 0 false), (8, .cells (rws rc (Q 7)) 0 false), (9, .cells (rws rc (Q 8)) 0 false), (10, .cells (rws rc R) 0 false), (16, .cells (rws rc q ++ sp) 67 true), (21, .cells [.slice (some ⟨16, 0, none⟩) q.length ca] 55 true)] 23 (by decide) ⟨rfl, rfl, rfl, rfl, rfl, rfl, rfl, rfl, rfl, trivial⟩ ⟨sb rfl, sb rfl, sb rfl, sb rfl, sb rfl, sb rfl, sb rfl, sb rfl, sb rfl, sb rfl, sb rfl, sb rfl, sb rfl, trivial⟩ rfl (bdH_b (by decide) (row_bd fun k hk => by have := List.mem_range.1 hk; omega) (bdH_c (by decide) (rcs_plain (Q 0)) (bdH_c (by decide) (rcs_plain (Q 1)) (bdH_c (by decide) (rcs_plain (Q 2)) (bdH_c (by decide) (rcs_plain (Q 3)) (bdH_c (by decide) (rcs_plain (Q 4)) (bdH_c (by decide) (rcs_plain (Q 5)) (bdH_c (by decide) (rcs_plain (Q 6)) (bdH_c (by decide) (rcs_plain (Q 7)) (bdH_c (by decide) (rcs_plain (Q 8)) (bdH_c (by decide) (rcs_plain R) (bdH_c (by decide) (plainL_append (rcs_plain _) hsp) (bdH_b (by decide) rfl rfl))))))))))))), 0, rfl, by decide, rfl⟩
              · rintro k2 s ⟨j, hk2, hj, rfl⟩
                refine vc_seq ?_
                refine vc_go (by kernel_rfl) fun K hK => hK _ _ _ ?_
                clear hK K
                refine vc_seq ?_
                refine vc_cond rfl (fun c2 => ?_) (fun c2 => ?_)
                · -- cond 13 t106 true
                  refine vc_skip ?_
                  refine vc_seq ?_
                  refine vc_block ?_
                  refine vc_seq ?_
                  refine vc_go (by kernel_rfl) fun K hK => hK _ _ _ ?_
                  clear hK K
                  refine vc_seq ?_
                  have hj18 : j < 18 := by have := of_decide_eq_true c2; omega
                  have h43 := p43 q ca (j : Int) (by omega)
                  have h74 := p74 q ca (j : Int) (by omega)
                  rw [get_right ⟨by omega, by omega⟩, if_neg (by rw [hokq]; simp)] at h43
                  refine vc_reg (by kernel_rfl) fun K hK => ?_
                  refine run_n (z := false) 2 (fun K' hK' => hK' _ _ _ ?_) (by decide)
                  clear hK' K'
                  refine run_ro (fun _ => (16, 0)) (h43) ?_ rfl rfl rfl rfl ?_
                  · intro x hx
                    simp only [List.mem_singleton] at hx
                    subst hx
                    exact ⟨_, _, _, rfl, get_zero_app⟩
                  refine run_end (z := false) fun K' hK' => hK' _ _ _ (hK _ _ _ ?_)
                  clear hK' K' hK K
                  refine vc_seq ?_
                  refine vc_reg (by kernel_rfl) fun K hK => ?_
                  refine run_n (z := false) 2 (fun K' hK' => hK' _ _ _ ?_) (by decide)
                  clear hK' K'
                  refine run_ro (fun _ => (16, 0)) (h74) ?_ rfl rfl rfl rfl ?_
                  · intro x hx
                    simp only [List.mem_singleton] at hx
                    subst hx
                    exact ⟨_, _, _, rfl, get_zero_app⟩
                  refine run_end (z := false) fun K' hK' => hK' _ _ _ (hK _ _ _ ?_)
                  clear hK' K' hK K
                  refine vc_seq ?_
                  refine vc_reg (by kernel_rfl) fun K hK => ?_
                  refine run_n (z := false) 2 (fun K' hK' => hK' _ _ _ ?_) (by decide)
                  clear hK' K'
                  refine vgo_known 121 (b := false) (rfl) ?_
                  refine run_n (z := false) 10 (fun K' hK' => hK' _ _ _ ?_) (by decide)
                  clear hK' K'
                  refine vgo_known 131 (b := false) (rfl) ?_
                  refine run_n (z := false) 3 (fun K' hK' => hK' _ _ _ ?_) (by decide)
                  clear hK' K'
                  refine vgo_known 134 (b := true) (rfl) ?_
                  refine run_n (z := false) 4 (fun K' hK' => hK' _ _ _ ?_) (by decide)
                  clear hK' K'
                  refine vgo_known 138 (b := false) (rfl) ?_
                  refine run_end (z := false) fun K' hK' => hK' _ _ _ (hK _ _ _ ?_)
                  clear hK' K' hK K
                  refine vc_cond (t := false) rfl (fun h => by cases h) (fun _ => ?_)
                  refine vc_skip ?_
                  refine vc_go (by kernel_rfl) fun K hK => hK _ _ _ ?_
                  clear hK K
                  exact ⟨_, fg_focus [(0, .slice (some ⟨0, 0, none⟩) n cap), (1, .slice none 0 0), (4, .bool false), (25, .slice (some ⟨0, 0, none⟩) n cap), (26, .int .i64 (n : Int)), (27, .int .i64 ((i : Nat) : Int)), (7, .pointer (some ⟨21, 0, none⟩)), (9, .bool false), (105, .int .i64 ((j + 1 : Nat) : Int))] [(0, .cells (rws (cq N Q C) (List.range m)) 0 false), (1, .cells (rws rc (Q 0)) 0 false), (2, .cells (rws rc (Q 1)) 0 false), (3, .cells (rws rc (Q 2)) 0 false), (4, .cells (rws rc (Q 3)) 0 false), (5, .cells (rws rc (Q 4)) 0 false), (6, .cells (rws rc (Q 5)) 0 false), (7, .cells (rws rc (Q 6)) 0 false), (8, .cells (rws rc (Q 7)) 0 false), (9, .cells (rws rc (Q 8)) 0 false), (10, .cells (rws rc R) 0 false), (16, .cells (rws rc q ++ sp) 67 true), (21, .cells [.slice (some ⟨16, 0, none⟩) q.length ca] 55 true)] 23 (by decide) ⟨rfl, rfl, rfl, rfl, rfl, rfl, rfl, rfl, ii (wrapI (by omega) (by omega)), trivial⟩ ⟨sb rfl, sb rfl, sb rfl, sb rfl, sb rfl, sb rfl, sb rfl, sb rfl, sb rfl, sb rfl, sb rfl, sb rfl, sb rfl, trivial⟩ rfl (bdH_b (by decide) (row_bd fun k hk => by have := List.mem_range.1 hk; omega) (bdH_c (by decide) (rcs_plain (Q 0)) (bdH_c (by decide) (rcs_plain (Q 1)) (bdH_c (by decide) (rcs_plain (Q 2)) (bdH_c (by decide) (rcs_plain (Q 3)) (bdH_c (by decide) (rcs_plain (Q 4)) (bdH_c (by decide) (rcs_plain (Q 5)) (bdH_c (by decide) (rcs_plain (Q 6)) (bdH_c (by decide) (rcs_plain (Q 7)) (bdH_c (by decide) (rcs_plain (Q 8)) (bdH_c (by decide) (rcs_plain R) (bdH_c (by decide) (plainL_append (rcs_plain _) hsp) (bdH_b (by decide) rfl rfl))))))))))))), 18 - (j + 1), by omega, j + 1, rfl, by omega, rfl⟩
                · -- cond 13 t106 false
                  refine vc_exit ?_
                  refine vc_go (by kernel_rfl) fun K hK => hK _ _ _ ?_
                  clear hK K
                  exact ⟨_, fg_focus [(0, .slice (some ⟨0, 0, none⟩) n cap), (1, .slice none 0 0), (4, .bool false), (25, .slice (some ⟨0, 0, none⟩) n cap), (26, .int .i64 (n : Int)), (27, .int .i64 ((i + 1 : Nat) : Int))] [(0, .cells (rws (cq N Q C) (List.range m)) 0 false), (1, .cells (rws rc (Q 0)) 0 false), (2, .cells (rws rc (Q 1)) 0 false), (3, .cells (rws rc (Q 2)) 0 false), (4, .cells (rws rc (Q 3)) 0 false), (5, .cells (rws rc (Q 4)) 0 false), (6, .cells (rws rc (Q 5)) 0 false), (7, .cells (rws rc (Q 6)) 0 false), (8, .cells (rws rc (Q 7)) 0 false), (9, .cells (rws rc (Q 8)) 0 false), (10, .cells (rws rc R) 0 false)] 11 (by decide) ⟨rfl, rfl, rfl, rfl, rfl, ii (wrapI (by omega) (by omega)), trivial⟩ ⟨sb rfl, sb rfl, sb rfl, sb rfl, sb rfl, sb rfl, sb rfl, sb rfl, sb rfl, sb rfl, sb rfl, trivial⟩ rfl (bdH_b (by decide) (row_bd fun k hk => by have := List.mem_range.1 hk; omega) (bdH_c (by decide) (rcs_plain (Q 0)) (bdH_c (by decide) (rcs_plain (Q 1)) (bdH_c (by decide) (rcs_plain (Q 2)) (bdH_c (by decide) (rcs_plain (Q 3)) (bdH_c (by decide) (rcs_plain (Q 4)) (bdH_c (by decide) (rcs_plain (Q 5)) (bdH_c (by decide) (rcs_plain (Q 6)) (bdH_c (by decide) (rcs_plain (Q 7)) (bdH_c (by decide) (rcs_plain (Q 8)) (bdH_c (by decide) (rcs_plain R) rfl))))))))))), n - (i + 1), by omega, i + 1, rfl, hlt, by (have : i ≠ 8 := by rintro rfl; simp at h8); omega, rfl⟩
          · rw [hokq] at h71
            rw [chk1_yes hokq] at h47
            refine vc_reg (by kernel_rfl) fun K hK => ?_
            refine run_n (z := false) 1 (fun K' hK' => hK' _ _ _ ?_) (by decide)
            clear hK' K'
            refine run_ro (fun _ => (16, 0)) (h71) ?_ rfl rfl rfl rfl ?_
            · intro x hx
              simp only [List.mem_singleton] at hx
              subst hx
              exact ⟨_, _, _, rfl, get_zero_app⟩
            refine run_end (z := false) fun K' hK' => hK' _ _ _ (hK _ _ _ ?_)
            clear hK' K' hK K
            refine vc_seq ?_
            refine vc_mid (fun s => s = can [(0, .slice (some ⟨0, 0, none⟩) n cap), (1, .slice none 0 0), (4, .bool false), (25, .slice (some ⟨0, 0, none⟩) n cap), (26, .int .i64 (n : Int)), (27, .int .i64 ((i : Nat) : Int)), (7, .pointer (some ⟨21, 0, none⟩)), (9, .bool true)] [(0, .cells (rws (cq N Q C) (List.range m)) 0 false), (1, .cells (rws rc (Q 0)) 0 false), (2, .cells (rws rc (Q 1)) 0 false), (3, .cells (rws rc (Q 2)) 0 false), (4, .cells (rws rc (Q 3)) 0 false), (5, .cells (rws rc (Q 4)) 0 false), (6, .cells (rws rc (Q 5)) 0 false), (7, .cells (rws rc (Q 6)) 0 false), (8, .cells (rws rc (Q 7)) 0 false), (9, .cells (rws rc (Q 8)) 0 false), (10, .cells (rws rc R) 0 false), (16, .cells (rws rc q ++ sp) 67 true), (21, .cells [.slice (some ⟨16, 0, none⟩) q.length ca] 55 true)] 23) ?_ ?_
            · skip
              refine vc_seq ?_
              refine vc_reg (by kernel_rfl) fun K hK => ?_
              refine run_n (z := false) 1 (fun K' hK' => hK' _ _ _ ?_) (by decide)
              clear hK' K'
              refine run_ro (fun _ => (16, 0)) (h47) ?_ rfl rfl rfl rfl ?_
              · intro x hx
                simp only [List.mem_singleton] at hx
                subst hx
                exact ⟨_, _, _, rfl, get_zero_app⟩
              refine run_end (z := false) fun K' hK' => hK' _ _ _ (hK _ _ _ ?_)
              clear hK' K' hK K
              refine vc_seq ?_
              have h8n : i ≠ 8 := by rintro rfl; simp at h8
              clear h8
              have hi8 : i = 0 ∨ i = 1 ∨ i = 2 ∨ i = 3 ∨ i = 4 ∨ i = 5 ∨ i = 6 ∨ i = 7 := by omega
              rcases hi8 with rfl | rfl | rfl | rfl | rfl | rfl | rfl | rfl
              · skip
                refine vc_regD [(15, 16), (15, 17), (22, 24)] (by kernel_rfl) (by kernel_rfl) fun K hK => ?_
                refine runD_n (z := false) 5 (fun K' hK' => hK' _ _ _ _ ?_) (by decide)
                clear hK' K'
                refine W_known 48 (b := false) (rfl) ?_
                refine runD_n (z := false) 3 (fun K' hK' => hK' _ _ _ _ ?_) (by decide)
                clear hK' K'
                refine W_known 51 (b := false) (rfl) ?_
                refine runD_n (z := false) 5 (fun K' hK' => hK' _ _ _ _ ?_) (by decide)
                clear hK' K'
                refine W_known 56 (b := false) (rfl) ?_
                refine runD_n (z := false) 2 (fun K' hK' => hK' _ _ _ _ ?_) (by decide)
                clear hK' K'
                refine runD_ro (fun k => if k = 0 then (16, 0) else (20, 0)) h45 ?_ rfl rfl rfl rfl rfl ?_
                · intro x hx
                  simp only [List.mem_cons, List.mem_singleton, List.not_mem_nil, or_false] at hx
                  rcases hx with rfl | rfl
                  · exact ⟨_, _, _, rfl, get_zero_app⟩
                  · exact ⟨_, _, _, rfl, get_zero_app⟩
                refine runD_n (z := false) 2 (fun K' hK' => hK' _ _ _ _ ?_) (by decide)
                clear hK' K'
                refine runD_ro (fun k => if k = 0 then (16, 0) else (20, 0)) h72 ?_ rfl rfl rfl rfl rfl ?_
                · intro x hx
                  simp only [List.mem_cons, List.mem_singleton, List.not_mem_nil, or_false] at hx
                  rcases hx with rfl | rfl
                  · exact ⟨_, _, _, rfl, get_zero_app⟩
                  · exact ⟨_, _, _, rfl, get_zero_app⟩
                refine runD_n (z := false) 3 (fun K' hK' => hK' _ _ _ _ ?_) (by decide)
                clear hK' K'
                refine W_known 65 (b := false) (bb (by simp)) ?_
                refine runD_n (z := false) 2 (fun K' hK' => hK' _ _ _ _ ?_) (by decide)
                clear hK' K'
                refine runD_fc (fun _ => (0 + 1, 0)) (p39u (N 0) (Q 0) (C 0) (hN 0) (hC 0)) (hasF ⟨sf_winp (c1 := rws rc (Q 0)) (t1 := 0) (own := false) (rcs_plain _) rfl get_zero, trivial⟩ rfl) rfl rfl (congrArg (fun x => [Value.agg #[x]]) (idq_ren (N 0) (Q 0) (0 + 1) (C 0)).symm) rfl ⟨_, _, _, Nat.le_refl _, rfl, rfl⟩ (by rintro _ _ ⟨_, _, rfl, rfl⟩; rfl) ?_
                rintro _ _ ⟨cc, hcc, rfl, rfl⟩
                rw [renU_c (renB_p (spare_plain _ _)) renU_nil]
                simp only [← hq]
                refine runD_ro (fun k => if k = 0 then (16, 0) else (47, 0)) (same_ro q ca cc (by omega)) ?_ rfl rfl rfl rfl rfl ?_
                · intro x hx
                  simp only [List.mem_cons, List.mem_singleton, List.not_mem_nil, or_false] at hx
                  rcases hx with rfl | rfl
                  · exact ⟨_, _, _, rfl, get_zero_app⟩
                  · exact ⟨_, _, _, rfl, get_zero_app⟩
                refine runD_end (z := false) fun K' hK' => hK' _ _ _ _ (hK _ _ _ ?_)
                clear hK' K' hK K
                refine vc_cond (t := false) rfl (fun h => by cases h) (fun _ => ?_)
                refine vc_skip ?_
                exact ⟨rfl, _, fg_focus [(0, .slice (some ⟨0, 0, none⟩) n cap), (1, .slice none 0 0), (4, .bool false), (25, .slice (some ⟨0, 0, none⟩) n cap), (26, .int .i64 (n : Int)), (27, .int .i64 ((0 : Nat) : Int)), (7, .pointer (some ⟨21, 0, none⟩)), (9, .bool true)] [(0, .cells (rws (cq N Q C) (List.range m)) 0 false), (1, .cells (rws rc (Q 0)) 0 false), (2, .cells (rws rc (Q 1)) 0 false), (3, .cells (rws rc (Q 2)) 0 false), (4, .cells (rws rc (Q 3)) 0 false), (5, .cells (rws rc (Q 4)) 0 false), (6, .cells (rws rc (Q 5)) 0 false), (7, .cells (rws rc (Q 6)) 0 false), (8, .cells (rws rc (Q 7)) 0 false), (9, .cells (rws rc (Q 8)) 0 false), (10, .cells (rws rc R) 0 false), (16, .cells (rws rc q ++ sp) 67 true), (21, .cells [.slice (some ⟨16, 0, none⟩) q.length ca] 55 true)] 23 (by decide) ⟨rfl, rfl, rfl, rfl, rfl, rfl, rfl, rfl, trivial⟩ ⟨sb rfl, sb rfl, sb rfl, sb rfl, sb rfl, sb rfl, sb rfl, sb rfl, sb rfl, sb rfl, sb rfl, sb rfl, sb rfl, trivial⟩ rfl (bdH_b (by decide) (row_bd fun k hk => by have := List.mem_range.1 hk; omega) (bdH_c (by decide) (rcs_plain (Q 0)) (bdH_c (by decide) (rcs_plain (Q 1)) (bdH_c (by decide) (rcs_plain (Q 2)) (bdH_c (by decide) (rcs_plain (Q 3)) (bdH_c (by decide) (rcs_plain (Q 4)) (bdH_c (by decide) (rcs_plain (Q 5)) (bdH_c (by decide) (rcs_plain (Q 6)) (bdH_c (by decide) (rcs_plain (Q 7)) (bdH_c (by decide) (rcs_plain (Q 8)) (bdH_c (by decide) (rcs_plain R) (bdH_c (by decide) (plainL_append (rcs_plain _) hsp) (bdH_b (by decide) rfl rfl))))))))))))), rfl⟩
              · skip
                refine vc_regD [(15, 16), (15, 17), (22, 24)] (by kernel_rfl) (by kernel_rfl) fun K hK => ?_
                refine runD_n (z := false) 5 (fun K' hK' => hK' _ _ _ _ ?_) (by decide)
                clear hK' K'
                refine W_known 48 (b := false) (rfl) ?_
                refine runD_n (z := false) 3 (fun K' hK' => hK' _ _ _ _ ?_) (by decide)
                clear hK' K'
                refine W_known 51 (b := false) (rfl) ?_
                refine runD_n (z := false) 5 (fun K' hK' => hK' _ _ _ _ ?_) (by decide)
                clear hK' K'
                refine W_known 56 (b := false) (rfl) ?_
                refine runD_n (z := false) 2 (fun K' hK' => hK' _ _ _ _ ?_) (by decide)
                clear hK' K'
                refine runD_ro (fun k => if k = 0 then (16, 0) else (20, 0)) h45 ?_ rfl rfl rfl rfl rfl ?_
                · intro x hx
                  simp only [List.mem_cons, List.mem_singleton, List.not_mem_nil, or_false] at hx
                  rcases hx with rfl | rfl
                  · exact ⟨_, _, _, rfl, get_zero_app⟩
                  · exact ⟨_, _, _, rfl, get_zero_app⟩
                refine runD_n (z := false) 2 (fun K' hK' => hK' _ _ _ _ ?_) (by decide)
                clear hK' K'
                refine runD_ro (fun k => if k = 0 then (16, 0) else (20, 0)) h72 ?_ rfl rfl rfl rfl rfl ?_
                · intro x hx
                  simp only [List.mem_cons, List.mem_singleton, List.not_mem_nil, or_false] at hx
                  rcases hx with rfl | rfl
                  · exact ⟨_, _, _, rfl, get_zero_app⟩
                  · exact ⟨_, _, _, rfl, get_zero_app⟩
                refine runD_n (z := false) 3 (fun K' hK' => hK' _ _ _ _ ?_) (by decide)
                clear hK' K'
                refine W_known 65 (b := false) (bb (by simp)) ?_
                refine runD_n (z := false) 2 (fun K' hK' => hK' _ _ _ _ ?_) (by decide)
                clear hK' K'
                refine runD_fc (fun _ => (1 + 1, 0)) (p39u (N 1) (Q 1) (C 1) (hN 1) (hC 1)) (hasF ⟨sf_winp (c1 := rws rc (Q 1)) (t1 := 0) (own := false) (rcs_plain _) rfl get_zero, trivial⟩ rfl) rfl rfl (congrArg (fun x => [Value.agg #[x]]) (idq_ren (N 1) (Q 1) (1 + 1) (C 1)).symm) rfl ⟨_, _, _, Nat.le_refl _, rfl, rfl⟩ (by rintro _ _ ⟨_, _, rfl, rfl⟩; rfl) ?_
                rintro _ _ ⟨cc, hcc, rfl, rfl⟩
                rw [renU_c (renB_p (spare_plain _ _)) renU_nil]
                simp only [← hq]
                refine runD_ro (fun k => if k = 0 then (16, 0) else (47, 0)) (same_ro q ca cc (by omega)) ?_ rfl rfl rfl rfl rfl ?_
                · intro x hx
                  simp only [List.mem_cons, List.mem_singleton, List.not_mem_nil, or_false] at hx
                  rcases hx with rfl | rfl
                  · exact ⟨_, _, _, rfl, get_zero_app⟩
                  · exact ⟨_, _, _, rfl, get_zero_app⟩
                refine runD_end (z := false) fun K' hK' => hK' _ _ _ _ (hK _ _ _ ?_)
                clear hK' K' hK K
                refine vc_cond (t := false) rfl (fun h => by cases h) (fun _ => ?_)
                refine vc_skip ?_
                exact ⟨rfl, _, fg_focus [(0, .slice (some ⟨0, 0, none⟩) n cap), (1, .slice none 0 0), (4, .bool false), (25, .slice (some ⟨0, 0, none⟩) n cap), (26, .int .i64 (n : Int)), (27, .int .i64 ((1 : Nat) : Int)), (7, .pointer (some ⟨21, 0, none⟩)), (9, .bool true)] [(0, .cells (rws (cq N Q C) (List.range m)) 0 false), (1, .cells (rws rc (Q 0)) 0 false), (2, .cells (rws rc (Q 1)) 0 false), (3, .cells (rws rc (Q 2)) 0 false), (4, .cells (rws rc (Q 3)) 0 false), (5, .cells (rws rc (Q 4)) 0 false), (6, .cells (rws rc (Q 5)) 0 false), (7, .cells (rws rc (Q 6)) 0 false), (8, .cells (rws rc (Q 7)) 0 false), (9, .cells (rws rc (Q 8)) 0 false), (10, .cells (rws rc R) 0 false), (16, .cells (rws rc q ++ sp) 67 true), (21, .cells [.slice (some ⟨16, 0, none⟩) q.length ca] 55 true)] 23 (by decide) ⟨rfl, rfl, rfl, rfl, rfl, rfl, rfl, rfl, trivial⟩ ⟨sb rfl, sb rfl, sb rfl, sb rfl, sb rfl, sb rfl, sb rfl, sb rfl, sb rfl, sb rfl, sb rfl, sb rfl, sb rfl, trivial⟩ rfl (bdH_b (by decide) (row_bd fun k hk => by have := List.mem_range.1 hk; omega) (bdH_c (by decide) (rcs_plain (Q 0)) (bdH_c (by decide) (rcs_plain (Q 1)) (bdH_c (by decide) (rcs_plain (Q 2)) (bdH_c (by decide) (rcs_plain (Q 3)) (bdH_c (by decide) (rcs_plain (Q 4)) (bdH_c (by decide) (rcs_plain (Q 5)) (bdH_c (by decide) (rcs_plain (Q 6)) (bdH_c (by decide) (rcs_plain (Q 7)) (bdH_c (by decide) (rcs_plain (Q 8)) (bdH_c (by decide) (rcs_plain R) (bdH_c (by decide) (plainL_append (rcs_plain _) hsp) (bdH_b (by decide) rfl rfl))))))))))))), rfl⟩
              · skip
                refine vc_regD [(15, 16), (15, 17), (22, 24)] (by kernel_rfl) (by kernel_rfl) fun K hK => ?_
                refine runD_n (z := false) 5 (fun K' hK' => hK' _ _ _ _ ?_) (by decide)
                clear hK' K'
                refine W_known 48 (b := false) (rfl) ?_
                refine runD_n (z := false) 3 (fun K' hK' => hK' _ _ _ _ ?_) (by decide)
                clear hK' K'
                refine W_known 51 (b := false) (rfl) ?_
                refine runD_n (z := false) 5 (fun K' hK' => hK' _ _ _ _ ?_) (by decide)
                clear hK' K'
                refine W_known 56 (b := false) (rfl) ?_
                refine runD_n (z := false) 2 (fun K' hK' => hK' _ _ _ _ ?_) (by decide)
                clear hK' K'
                refine runD_ro (fun k => if k = 0 then (16, 0) else (20, 0)) h45 ?_ rfl rfl rfl rfl rfl ?_
                · intro x hx
                  simp only [List.mem_cons, List.mem_singleton, List.not_mem_nil, or_false] at hx
                  rcases hx with rfl | rfl
                  · exact ⟨_, _, _, rfl, get_zero_app⟩
                  · exact ⟨_, _, _, rfl, get_zero_app⟩
                refine runD_n (z := false) 2 (fun K' hK' => hK' _ _ _ _ ?_) (by decide)
                clear hK' K'
                refine runD_ro (fun k => if k = 0 then (16, 0) else (20, 0)) h72 ?_ rfl rfl rfl rfl rfl ?_
                · intro x hx
                  simp only [List.mem_cons, List.mem_singleton, List.not_mem_nil, or_false] at hx
                  rcases hx with rfl | rfl
                  · exact ⟨_, _, _, rfl, get_zero_app⟩
                  · exact ⟨_, _, _, rfl, get_zero_app⟩
                refine runD_n (z := false) 3 (fun K' hK' => hK' _ _ _ _ ?_) (by decide)
                clear hK' K'
                refine W_known 65 (b := false) (bb (by simp)) ?_
                refine runD_n (z := false) 2 (fun K' hK' => hK' _ _ _ _ ?_) (by decide)
                clear hK' K'
                refine runD_fc (fun _ => (2 + 1, 0)) (p39u (N 2) (Q 2) (C 2) (hN 2) (hC 2)) (hasF ⟨sf_winp (c1 := rws rc (Q 2)) (t1 := 0) (own := false) (rcs_plain _) rfl get_zero, trivial⟩ rfl) rfl rfl (congrArg (fun x => [Value.agg #[x]]) (idq_ren (N 2) (Q 2) (2 + 1) (C 2)).symm) rfl ⟨_, _, _, Nat.le_refl _, rfl, rfl⟩ (by rintro _ _ ⟨_, _, rfl, rfl⟩; rfl) ?_
                rintro _ _ ⟨cc, hcc, rfl, rfl⟩
                rw [renU_c (renB_p (spare_plain _ _)) renU_nil]
                simp only [← hq]
                refine runD_ro (fun k => if k = 0 then (16, 0) else (47, 0)) (same_ro q ca cc (by omega)) ?_ rfl rfl rfl rfl rfl ?_
                · intro x hx
                  simp only [List.mem_cons, List.mem_singleton, List.not_mem_nil, or_false] at hx
                  rcases hx with rfl | rfl
                  · exact ⟨_, _, _, rfl, get_zero_app⟩
                  · exact ⟨_, _, _, rfl, get_zero_app⟩
                refine runD_end (z := false) fun K' hK' => hK' _ _ _ _ (hK _ _ _ ?_)
                clear hK' K' hK K
                refine vc_cond (t := false) rfl (fun h => by cases h) (fun _ => ?_)
                refine vc_skip ?_
                exact ⟨rfl, _, fg_focus [(0, .slice (some ⟨0, 0, none⟩) n cap), (1, .slice none 0 0), (4, .bool false), (25, .slice (some ⟨0, 0, none⟩) n cap), (26, .int .i64 (n : Int)), (27, .int .i64 ((2 : Nat) : Int)), (7, .pointer (some ⟨21, 0, none⟩)), (9, .bool true)] [(0, .cells (rws (cq N Q C) (List.range m)) 0 false), (1, .cells (rws rc (Q 0)) 0 false), (2, .cells (rws rc (Q 1)) 0 false), (3, .cells (rws rc (Q 2)) 0 false), (4, .cells (rws rc (Q 3)) 0 false), (5, .cells (rws rc (Q 4)) 0 false), (6, .cells (rws rc (Q 5)) 0 false), (7, .cells (rws rc (Q 6)) 0 false), (8, .cells (rws rc (Q 7)) 0 false), (9, .cells (rws rc (Q 8)) 0 false), (10, .cells (rws rc R) 0 false), (16, .cells (rws rc q ++ sp) 67 true), (21, .cells [.slice (some ⟨16, 0, none⟩) q.length ca] 55 true)] 23 (by decide) ⟨rfl, rfl, rfl, rfl, rfl, rfl, rfl, rfl, trivial⟩ ⟨sb rfl, sb rfl, sb rfl, sb rfl, sb rfl, sb rfl, sb rfl, sb rfl, sb rfl, sb rfl, sb rfl, sb rfl, sb rfl, trivial⟩ rfl (bdH_b (by decide) (row_bd fun k hk => by have := List.mem_range.1 hk; omega) (bdH_c (by decide) (rcs_plain (Q 0)) (bdH_c (by decide) (rcs_plain (Q 1)) (bdH_c (by decide) (rcs_plain (Q 2)) (bdH_c (by decide) (rcs_plain (Q 3)) (bdH_c (by decide) (rcs_plain (Q 4)) (bdH_c (by decide) (rcs_plain (Q 5)) (bdH_c (by decide) (rcs_plain (Q 6)) (bdH_c (by decide) (rcs_plain (Q 7)) (bdH_c (by decide) (rcs_plain (Q 8)) (bdH_c (by decide) (rcs_plain R) (bdH_c (by decide) (plainL_append (rcs_plain _) hsp) (bdH_b (by decide) rfl rfl))))))))))))), rfl⟩
              · skip
                refine vc_regD [(15, 16), (15, 17), (22, 24)] (by kernel_rfl) (by kernel_rfl) fun K hK => ?_
                refine runD_n (z := false) 5 (fun K' hK' => hK' _ _ _ _ ?_) (by decide)
                clear hK' K'
                refine W_known 48 (b := false) (rfl) ?_
                refine runD_n (z := false) 3 (fun K' hK' => hK' _ _ _ _ ?_) (by decide)
                clear hK' K'
                refine W_known 51 (b := false) (rfl) ?_
                refine runD_n (z := false) 5 (fun K' hK' => hK' _ _ _ _ ?_) (by decide)
                clear hK' K'
                refine W_known 56 (b := false) (rfl) ?_
                refine runD_n (z := false) 2 (fun K' hK' => hK' _ _ _ _ ?_) (by decide)
                clear hK' K'
                refine runD_ro (fun k => if k = 0 then (16, 0) else (20, 0)) h45 ?_ rfl rfl rfl rfl rfl ?_
                · intro x hx
                  simp only [List.mem_cons, List.mem_singleton, List.not_mem_nil, or_false] at hx
                  rcases hx with rfl | rfl
                  · exact ⟨_, _, _, rfl, get_zero_app⟩
                  · exact ⟨_, _, _, rfl, get_zero_app⟩
                refine runD_n (z := false) 2 (fun K' hK' => hK' _ _ _ _ ?_) (by decide)
                clear hK' K'
                refine runD_ro (fun k => if k = 0 then (16, 0) else (20, 0)) h72 ?_ rfl rfl rfl rfl rfl ?_
                · intro x hx
                  simp only [List.mem_cons, List.mem_singleton, List.not_mem_nil, or_false] at hx
                  rcases hx with rfl | rfl
                  · exact ⟨_, _, _, rfl, get_zero_app⟩
                  · exact ⟨_, _, _, rfl, get_zero_app⟩
                refine runD_n (z := false) 3 (fun K' hK' => hK' _ _ _ _ ?_) (by decide)
                clear hK' K'
                refine W_known 65 (b := false) (bb (by simp)) ?_
                refine runD_n (z := false) 2 (fun K' hK' => hK' _ _ _ _ ?_) (by decide)
                clear hK' K'
                refine runD_fc (fun _ => (3 + 1, 0)) (p39u (N 3) (Q 3) (C 3) (hN 3) (hC 3)) (hasF ⟨sf_winp (c1 := rws rc (Q 3)) (t1 := 0) (own := false) (rcs_plain _) rfl get_zero, trivial⟩ rfl) rfl rfl (congrArg (fun x => [Value.agg #[x]]) (idq_ren (N 3) (Q 3) (3 + 1) (C 3)).symm) rfl ⟨_, _, _, Nat.le_refl _, rfl, rfl⟩ (by rintro _ _ ⟨_, _, rfl, rfl⟩; rfl) ?_
                rintro _ _ ⟨cc, hcc, rfl, rfl⟩
                rw [renU_c (renB_p (spare_plain _ _)) renU_nil]
                simp only [← hq]
                refine runD_ro (fun k => if k = 0 then (16, 0) else (47, 0)) (same_ro q ca cc (by omega)) ?_ rfl rfl rfl rfl rfl ?_
                · intro x hx
                  simp only [List.mem_cons, List.mem_singleton, List.not_mem_nil, or_false] at hx
                  rcases hx with rfl | rfl
                  · exact ⟨_, _, _, rfl, get_zero_app⟩
                  · exact ⟨_, _, _, rfl, get_zero_app⟩
                refine runD_end (z := false) fun K' hK' => hK' _ _ _ _ (hK _ _ _ ?_)
                clear hK' K' hK K
                refine vc_cond (t := false) rfl (fun h => by cases h) (fun _ => ?_)
                refine vc_skip ?_
                exact ⟨rfl, _, fg_focus [(0, .slice (some ⟨0, 0, none⟩) n cap), (1, .slice none 0 0), (4, .bool false), (25, .slice (some ⟨0, 0, none⟩) n cap), (26, .int .i64 (n : Int)), (27, .int .i64 ((3 : Nat) : Int)), (7, .pointer (some ⟨21, 0, none⟩)), (9, .bool true)] [(0, .cells (rws (cq N Q C) (List.range m)) 0 false), (1, .cells (rws rc (Q 0)) 0 false), (2, .cells (rws rc (Q 1)) 0 false), (3, .cells (rws rc (Q 2)) 0 false), (4, .cells (rws rc (Q 3)) 0 false), (5, .cells (rws rc (Q 4)) 0 false), (6, .cells (rws rc (Q 5)) 0 false), (7, .cells (rws rc (Q 6)) 0 false), (8, .cells (rws rc (Q 7)) 0 false), (9, .cells (rws rc (Q 8)) 0 false), (10, .cells (rws rc R) 0 false), (16, .cells (rws rc q ++ sp) 67 true), (21, .cells [.slice (some ⟨16, 0, none⟩) q.length ca] 55 true)] 23 (by decide) ⟨rfl, rfl, rfl, rfl, rfl, rfl, rfl, rfl, trivial⟩ ⟨sb rfl, sb rfl, sb rfl, sb rfl, sb rfl, sb rfl, sb rfl, sb rfl, sb rfl, sb rfl, sb rfl, sb rfl, sb rfl, trivial⟩ rfl (bdH_b (by decide) (row_bd fun k hk => by have := List.mem_range.1 hk; omega) (bdH_c (by decide) (rcs_plain (Q 0)) (bdH_c (by decide) (rcs_plain (Q 1)) (bdH_c (by decide) (rcs_plain (Q 2)) (bdH_c (by decide) (rcs_plain (Q 3)) (bdH_c (by decide) (rcs_plain (Q 4)) (bdH_c (by decide) (rcs_plain (Q 5)) (bdH_c (by decide) (rcs_plain (Q 6)) (bdH_c (by decide) (rcs_plain (Q 7)) (bdH_c (by decide) (rcs_plain (Q 8)) (bdH_c (by decide) (rcs_plain R) (bdH_c (by decide) (plainL_append (rcs_plain _) hsp) (bdH_b (by decide) rfl rfl))))))))))))), rfl⟩
              · skip
                refine vc_regD [(15, 16), (15, 17), (22, 24)] (by kernel_rfl) (by kernel_rfl) fun K hK => ?_
                refine runD_n (z := false) 5 (fun K' hK' => hK' _ _ _ _ ?_) (by decide)
                clear hK' K'
                refine W_known 48 (b := false) (rfl) ?_
                refine runD_n (z := false) 3 (fun K' hK' => hK' _ _ _ _ ?_) (by decide)
                clear hK' K'
                refine W_known 51 (b := false) (rfl) ?_
                refine runD_n (z := false) 5 (fun K' hK' => hK' _ _ _ _ ?_) (by decide)
                clear hK' K'
                refine W_known 56 (b := false) (rfl) ?_
                refine runD_n (z := false) 2 (fun K' hK' => hK' _ _ _ _ ?_) (by decide)
                clear hK' K'
                refine runD_ro (fun k => if k = 0 then (16, 0) else (20, 0)) h45 ?_ rfl rfl rfl rfl rfl ?_
                · intro x hx
                  simp only [List.mem_cons, List.mem_singleton, List.not_mem_nil, or_false] at hx
                  rcases hx with rfl | rfl
                  · exact ⟨_, _, _, rfl, get_zero_app⟩
                  · exact ⟨_, _, _, rfl, get_zero_app⟩
                refine runD_n (z := false) 2 (fun K' hK' => hK' _ _ _ _ ?_) (by decide)
                clear hK' K'
                refine runD_ro (fun k => if k = 0 then (16, 0) else (20, 0)) h72 ?_ rfl rfl rfl rfl rfl ?_
                · intro x hx
                  simp only [List.mem_cons, List.mem_singleton, List.not_mem_nil, or_false] at hx
                  rcases hx with rfl | rfl
                  · exact ⟨_, _, _, rfl, get_zero_app⟩
                  · exact ⟨_, _, _, rfl, get_zero_app⟩
                refine runD_n (z := false) 3 (fun K' hK' => hK' _ _ _ _ ?_) (by decide)
                clear hK' K'
                refine W_known 65 (b := false) (bb (by simp)) ?_
                refine runD_n (z := false) 2 (fun K' hK' => hK' _ _ _ _ ?_) (by decide)
                clear hK' K'
                refine runD_fc (fun _ => (4 + 1, 0)) (p39u (N 4) (Q 4) (C 4) (hN 4) (hC 4)) (hasF ⟨sf_winp (c1 := rws rc (Q 4)) (t1 := 0) (own := false) (rcs_plain _) rfl get_zero, trivial⟩ rfl) rfl rfl (congrArg (fun x => [Value.agg #[x]]) (idq_ren (N 4) (Q 4) (4 + 1) (C 4)).symm) rfl ⟨_, _, _, Nat.le_refl _, rfl, rfl⟩ (by rintro _ _ ⟨_, _, rfl, rfl⟩; rfl) ?_
                rintro _ _ ⟨cc, hcc, rfl, rfl⟩
                rw [renU_c (renB_p (spare_plain _ _)) renU_nil]
                simp only [← hq]
                refine runD_ro (fun k => if k = 0 then (16, 0) else (47, 0)) (same_ro q ca cc (by omega)) ?_ rfl rfl rfl rfl rfl ?_
                · intro x hx
                  simp only [List.mem_cons, List.mem_singleton, List.not_mem_nil, or_false] at hx
                  rcases hx with rfl | rfl
                  · exact ⟨_, _, _, rfl, get_zero_app⟩
                  · exact ⟨_, _, _, rfl, get_zero_app⟩
                refine runD_end (z := false) fun K' hK' => hK' _ _ _ _ (hK _ _ _ ?_)
                clear hK' K' hK K
                refine vc_cond (t := false) rfl (fun h => by cases h) (fun _ => ?_)
                refine vc_skip ?_
                exact ⟨rfl, _, fg_focus [(0, .slice (some ⟨0, 0, none⟩) n cap), (1, .slice none 0 0), (4, .bool false), (25, .slice (some ⟨0, 0, none⟩) n cap), (26, .int .i64 (n : Int)), (27, .int .i64 ((4 : Nat) : Int)), (7, .pointer (some ⟨21, 0, none⟩)), (9, .bool true)] [(0, .cells (rws (cq N Q C) (List.range m)) 0 false), (1, .cells (rws rc (Q 0)) 0 false), (2, .cells (rws rc (Q 1)) 0 false), (3, .cells (rws rc (Q 2)) 0 false), (4, .cells (rws rc (Q 3)) 0 false), (5, .cells (rws rc (Q 4)) 0 false), (6, .cells (rws rc (Q 5)) 0 false), (7, .cells (rws rc (Q 6)) 0 false), (8, .cells (rws rc (Q 7)) 0 false), (9, .cells (rws rc (Q 8)) 0 false), (10, .cells (rws rc R) 0 false), (16, .cells (rws rc q ++ sp) 67 true), (21, .cells [.slice (some ⟨16, 0, none⟩) q.length ca] 55 true)] 23 (by decide) ⟨rfl, rfl, rfl, rfl, rfl, rfl, rfl, rfl, trivial⟩ ⟨sb rfl, sb rfl, sb rfl, sb rfl, sb rfl, sb rfl, sb rfl, sb rfl, sb rfl, sb rfl, sb rfl, sb rfl, sb rfl, trivial⟩ rfl (bdH_b (by decide) (row_bd fun k hk => by have := List.mem_range.1 hk; omega) (bdH_c (by decide) (rcs_plain (Q 0)) (bdH_c (by decide) (rcs_plain (Q 1)) (bdH_c (by decide) (rcs_plain (Q 2)) (bdH_c (by decide) (rcs_plain (Q 3)) (bdH_c (by decide) (rcs_plain (Q 4)) (bdH_c (by decide) (rcs_plain (Q 5)) (bdH_c (by decide) (rcs_plain (Q 6)) (bdH_c (by decide) (rcs_plain (Q 7)) (bdH_c (by decide) (rcs_plain (Q 8)) (bdH_c (by decide) (rcs_plain R) (bdH_c (by decide) (plainL_append (rcs_plain _) hsp) (bdH_b (by decide) rfl rfl))))))))))))), rfl⟩
              · skip
                refine vc_regD [(15, 16), (15, 17), (22, 24)] (by kernel_rfl) (by kernel_rfl) fun K hK => ?_
                refine runD_n (z := false) 5 (fun K' hK' => hK' _ _ _ _ ?_) (by decide)
                clear hK' K'
                refine W_known 48 (b := false) (rfl) ?_
                refine runD_n (z := false) 3 (fun K' hK' => hK' _ _ _ _ ?_) (by decide)
                clear hK' K'
                refine W_known 51 (b := false) (rfl) ?_
                refine runD_n (z := false) 5 (fun K' hK' => hK' _ _ _ _ ?_) (by decide)
                clear hK' K'
                refine W_known 56 (b := false) (rfl) ?_
                refine runD_n (z := false) 2 (fun K' hK' => hK' _ _ _ _ ?_) (by decide)
                clear hK' K'
                refine runD_ro (fun k => if k = 0 then (16, 0) else (20, 0)) h45 ?_ rfl rfl rfl rfl rfl ?_
                · intro x hx
                  simp only [List.mem_cons, List.mem_singleton, List.not_mem_nil, or_false] at hx
                  rcases hx with rfl | rfl
                  · exact ⟨_, _, _, rfl, get_zero_app⟩
                  · exact ⟨_, _, _, rfl, get_zero_app⟩
                refine runD_n (z := false) 2 (fun K' hK' => hK' _ _ _ _ ?_) (by decide)
                clear hK' K'
                refine runD_ro (fun k => if k = 0 then (16, 0) else (20, 0)) h72 ?_ rfl rfl rfl rfl rfl ?_
                · intro x hx
                  simp only [List.mem_cons, List.mem_singleton, List.not_mem_nil, or_false] at hx
                  rcases hx with rfl | rfl
                  · exact ⟨_, _, _, rfl, get_zero_app⟩
                  · exact ⟨_, _, _, rfl, get_zero_app⟩
                refine runD_n (z := false) 3 (fun K' hK' => hK' _ _ _ _ ?_) (by decide)
                clear hK' K'
                refine W_known 65 (b := false) (bb (by simp)) ?_
                refine runD_n (z := false) 2 (fun K' hK' => hK' _ _ _ _ ?_) (by decide)
                clear hK' K'
                refine runD_fc (fun _ => (5 + 1, 0)) (p39u (N 5) (Q 5) (C 5) (hN 5) (hC 5)) (hasF ⟨sf_winp (c1 := rws rc (Q 5)) (t1 := 0) (own := false) (rcs_plain _) rfl get_zero, trivial⟩ rfl) rfl rfl (congrArg (fun x => [Value.agg #[x]]) (idq_ren (N 5) (Q 5) (5 + 1) (C 5)).symm) rfl ⟨_, _, _, Nat.le_refl _, rfl, rfl⟩ (by rintro _ _ ⟨_, _, rfl, rfl⟩; rfl) ?_
                rintro _ _ ⟨cc, hcc, rfl, rfl⟩
                rw [renU_c (renB_p (spare_plain _ _)) renU_nil]
                simp only [← hq]
                refine runD_ro (fun k => if k = 0 then (16, 0) else (47, 0)) (same_ro q ca cc (by omega)) ?_ rfl rfl rfl rfl rfl ?_
                · intro x hx
                  simp only [List.mem_cons, List.mem_singleton, List.not_mem_nil, or_false] at hx
                  rcases hx with rfl | rfl
                  · exact ⟨_, _, _, rfl, get_zero_app⟩
                  · exact ⟨_, _, _, rfl, get_zero_app⟩
                refine runD_end (z := false) fun K' hK' => hK' _ _ _ _ (hK _ _ _ ?_)
                clear hK' K' hK K
                refine vc_cond (t := false) rfl (fun h => by cases h) (fun _ => ?_)
                refine vc_skip ?_
                exact ⟨rfl, _, fg_focus [(0, .slice (some ⟨0, 0, none⟩) n cap), (1, .slice none 0 0), (4, .bool false), (25, .slice (some ⟨0, 0, none⟩) n cap), (26, .int .i64 (n : Int)), (27, .int .i64 ((5 : Nat) : Int)), (7, .pointer (some ⟨21, 0, none⟩)), (9, .bool true)] [(0, .cells (rws (cq N Q C) (List.range m)) 0 false), (1, .cells (rws rc (Q 0)) 0 false), (2, .cells (rws rc (Q 1)) 0 false), (3, .cells (rws rc (Q 2)) 0 false), (4, .cells (rws rc (Q 3)) 0 false), (5, .cells (rws rc (Q 4)) 0 false), (6, .cells (rws rc (Q 5)) 0 false), (7, .cells (rws rc (Q 6)) 0 false), (8, .cells (rws rc (Q 7)) 0 false), (9, .cells (rws rc (Q 8)) 0 false), (10, .cells (rws rc R) 0 false), (16, .cells (rws rc q ++ sp) 67 true), (21, .cells [.slice (some ⟨16, 0, none⟩) q.length ca] 55 true)] 23 (by decide) ⟨rfl, rfl, rfl, rfl, rfl, rfl, rfl, rfl, trivial⟩ ⟨sb rfl, sb rfl, sb rfl, sb rfl, sb rfl, sb rfl, sb rfl, sb rfl, sb rfl, sb rfl, sb rfl, sb rfl, sb rfl, trivial⟩ rfl (bdH_b (by decide) (row_bd fun k hk => by have := List.mem_range.1 hk; omega) (bdH_c (by decide) (rcs_plain (Q 0)) (bdH_c (by decide) (rcs_plain (Q 1)) (bdH_c (by decide) (rcs_plain (Q 2)) (bdH_c (by decide) (rcs_plain (Q 3)) (bdH_c (by decide) (rcs_plain (Q 4)) (bdH_c (by decide) (rcs_plain (Q 5)) (bdH_c (by decide) (rcs_plain (Q 6)) (bdH_c (by decide) (rcs_plain (Q 7)) (bdH_c (by decide) (rcs_plain (Q 8)) (bdH_c (by decide) (rcs_plain R) (bdH_c (by decide) (plainL_append (rcs_plain _) hsp) (bdH_b (by decide) rfl rfl))))))))))))), rfl⟩
              · skip
                refine vc_regD [(15, 16), (15, 17), (22, 24)] (by kernel_rfl) (by kernel_rfl) fun K hK => ?_
                refine runD_n (z := false) 5 (fun K' hK' => hK' _ _ _ _ ?_) (by decide)
                clear hK' K'
                refine W_known 48 (b := false) (rfl) ?_
                refine runD_n (z := false) 3 (fun K' hK' => hK' _ _ _ _ ?_) (by decide)
                clear hK' K'
                refine W_known 51 (b := false) (rfl) ?_
                refine runD_n (z := false) 5 (fun K' hK' => hK' _ _ _ _ ?_) (by decide)
                clear hK' K'
                refine W_known 56 (b := false) (rfl) ?_
                refine runD_n (z := false) 2 (fun K' hK' => hK' _ _ _ _ ?_) (by decide)
                clear hK' K'
                refine runD_ro (fun k => if k = 0 then (16, 0) else (20, 0)) h45 ?_ rfl rfl rfl rfl rfl ?_
                · intro x hx
                  simp only [List.mem_cons, List.mem_singleton, List.not_mem_nil, or_false] at hx
                  rcases hx with rfl | rfl
                  · exact ⟨_, _, _, rfl, get_zero_app⟩
                  · exact ⟨_, _, _, rfl, get_zero_app⟩
                refine runD_n (z := false) 2 (fun K' hK' => hK' _ _ _ _ ?_) (by decide)
                clear hK' K'
                refine runD_ro (fun k => if k = 0 then (16, 0) else (20, 0)) h72 ?_ rfl rfl rfl rfl rfl ?_
                · intro x hx
                  simp only [List.mem_cons, List.mem_singleton, List.not_mem_nil, or_false] at hx
                  rcases hx with rfl | rfl
                  · exact ⟨_, _, _, rfl, get_zero_app⟩
                  · exact ⟨_, _, _, rfl, get_zero_app⟩
                refine runD_n (z := false) 3 (fun K' hK' => hK' _ _ _ _ ?_) (by decide)
                clear hK' K'
                refine W_known 65 (b := false) (bb (by simp)) ?_
                refine runD_n (z := false) 2 (fun K' hK' => hK' _ _ _ _ ?_) (by decide)
                clear hK' K'
                refine runD_fc (fun _ => (6 + 1, 0)) (p39u (N 6) (Q 6) (C 6) (hN 6) (hC 6)) (hasF ⟨sf_winp (c1 := rws rc (Q 6)) (t1 := 0) (own := false) (rcs_plain _) rfl get_zero, trivial⟩ rfl) rfl rfl (congrArg (fun x => [Value.agg #[x]]) (idq_ren (N 6) (Q 6) (6 + 1) (C 6)).symm) rfl ⟨_, _, _, Nat.le_refl _, rfl, rfl⟩ (by rintro _ _ ⟨_, _, rfl, rfl⟩; rfl) ?_
                rintro _ _ ⟨cc, hcc, rfl, rfl⟩
                rw [renU_c (renB_p (spare_plain _ _)) renU_nil]
                simp only [← hq]
                refine runD_ro (fun k => if k = 0 then (16, 0) else (47, 0)) (same_ro q ca cc (by omega)) ?_ rfl rfl rfl rfl rfl ?_
                · intro x hx
                  simp only [List.mem_cons, List.mem_singleton, List.not_mem_nil, or_false] at hx
                  rcases hx with rfl | rfl
                  · exact ⟨_, _, _, rfl, get_zero_app⟩
                  · exact ⟨_, _, _, rfl, get_zero_app⟩
                refine runD_end (z := false) fun K' hK' => hK' _ _ _ _ (hK _ _ _ ?_)
                clear hK' K' hK K
                refine vc_cond (t := false) rfl (fun h => by cases h) (fun _ => ?_)
                refine vc_skip ?_
                exact ⟨rfl, _, fg_focus [(0, .slice (some ⟨0, 0, none⟩) n cap), (1, .slice none 0 0), (4, .bool false), (25, .slice (some ⟨0, 0, none⟩) n cap), (26, .int .i64 (n : Int)), (27, .int .i64 ((6 : Nat) : Int)), (7, .pointer (some ⟨21, 0, none⟩)), (9, .bool true)] [(0, .cells (rws (cq N Q C) (List.range m)) 0 false), (1, .cells (rws rc (Q 0)) 0 false), (2, .cells (rws rc (Q 1)) 0 false), (3, .cells (rws rc (Q 2)) 0 false), (4, .cells (rws rc (Q 3)) 0 false), (5, .cells (rws rc (Q 4)) 0 false), (6, .cells (rws rc (Q 5)) 0 false), (7, .cells (rws rc (Q 6)) 0 false), (8, .cells (rws rc (Q 7)) 0 false), (9, .cells (rws rc (Q 8)) 0 false), (10, .cells (rws rc R) 0 false), (16, .cells (rws rc q ++ sp) 67 true), (21, .cells [.slice (some ⟨16, 0, none⟩) q.length ca] 55 true)] 23 (by decide) ⟨rfl, rfl, rfl, rfl, rfl, rfl, rfl, rfl, trivial⟩ ⟨sb rfl, sb rfl, sb rfl, sb rfl, sb rfl, sb rfl, sb rfl, sb rfl, sb rfl, sb rfl, sb rfl, sb rfl, sb rfl, trivial⟩ rfl (bdH_b (by decide) (row_bd fun k hk => by have := List.mem_range.1 hk; omega) (bdH_c (by decide) (rcs_plain (Q 0)) (bdH_c (by decide) (rcs_plain (Q 1)) (bdH_c (by decide) (rcs_plain (Q 2)) (bdH_c (by decide) (rcs_plain (Q 3)) (bdH_c (by decide) (rcs_plain (Q 4)) (bdH_c (by decide) (rcs_plain (Q 5)) (bdH_c (by decide) (rcs_plain (Q 6)) (bdH_c (by decide) (rcs_plain (Q 7)) (bdH_c (by decide) (rcs_plain (Q 8)) (bdH_c (by decide) (rcs_plain R) (bdH_c (by decide) (plainL_append (rcs_plain _) hsp) (bdH_b (by decide) rfl rfl))))))))))))), rfl⟩
              · skip
                refine vc_regD [(15, 16), (15, 17), (22, 24)] (by kernel_rfl) (by kernel_rfl) fun K hK => ?_
                refine runD_n (z := false) 5 (fun K' hK' => hK' _ _ _ _ ?_) (by decide)
                clear hK' K'
                refine W_known 48 (b := false) (rfl) ?_
                refine runD_n (z := false) 3 (fun K' hK' => hK' _ _ _ _ ?_) (by decide)
                clear hK' K'
                refine W_known 51 (b := false) (rfl) ?_
                refine runD_n (z := false) 5 (fun K' hK' => hK' _ _ _ _ ?_) (by decide)
                clear hK' K'
                refine W_known 56 (b := false) (rfl) ?_
                refine runD_n (z := false) 2 (fun K' hK' => hK' _ _ _ _ ?_) (by decide)
                clear hK' K'
                refine runD_ro (fun k => if k = 0 then (16, 0) else (20, 0)) h45 ?_ rfl rfl rfl rfl rfl ?_
                · intro x hx
                  simp only [List.mem_cons, List.mem_singleton, List.not_mem_nil, or_false] at hx
                  rcases hx with rfl | rfl
                  · exact ⟨_, _, _, rfl, get_zero_app⟩
                  · exact ⟨_, _, _, rfl, get_zero_app⟩
                refine runD_n (z := false) 2 (fun K' hK' => hK' _ _ _ _ ?_) (by decide)
                clear hK' K'
                refine runD_ro (fun k => if k = 0 then (16, 0) else (20, 0)) h72 ?_ rfl rfl rfl rfl rfl ?_
                · intro x hx
                  simp only [List.mem_cons, List.mem_singleton, List.not_mem_nil, or_false] at hx
                  rcases hx with rfl | rfl
                  · exact ⟨_, _, _, rfl, get_zero_app⟩
                  · exact ⟨_, _, _, rfl, get_zero_app⟩
                refine runD_n (z := false) 3 (fun K' hK' => hK' _ _ _ _ ?_) (by decide)
                clear hK' K'
                refine W_known 65 (b := false) (bb (by simp)) ?_
                refine runD_n (z := false) 2 (fun K' hK' => hK' _ _ _ _ ?_) (by decide)
                clear hK' K'
                refine runD_fc (fun _ => (7 + 1, 0)) (p39u (N 7) (Q 7) (C 7) (hN 7) (hC 7)) (hasF ⟨sf_winp (c1 := rws rc (Q 7)) (t1 := 0) (own := false) (rcs_plain _) rfl get_zero, trivial⟩ rfl) rfl rfl (congrArg (fun x => [Value.agg #[x]]) (idq_ren (N 7) (Q 7) (7 + 1) (C 7)).symm) rfl ⟨_, _, _, Nat.le_refl _, rfl, rfl⟩ (by rintro _ _ ⟨_, _, rfl, rfl⟩; rfl) ?_
                rintro _ _ ⟨cc, hcc, rfl, rfl⟩
                rw [renU_c (renB_p (spare_plain _ _)) renU_nil]
                simp only [← hq]
                refine runD_ro (fun k => if k = 0 then (16, 0) else (47, 0)) (same_ro q ca cc (by omega)) ?_ rfl rfl rfl rfl rfl ?_
                · intro x hx
                  simp only [List.mem_cons, List.mem_singleton, List.not_mem_nil, or_false] at hx
                  rcases hx with rfl | rfl
                  · exact ⟨_, _, _, rfl, get_zero_app⟩
                  · exact ⟨_, _, _, rfl, get_zero_app⟩
                refine runD_end (z := false) fun K' hK' => hK' _ _ _ _ (hK _ _ _ ?_)
                clear hK' K' hK K
                refine vc_cond (t := false) rfl (fun h => by cases h) (fun _ => ?_)
                refine vc_skip ?_
                exact ⟨rfl, _, fg_focus [(0, .slice (some ⟨0, 0, none⟩) n cap), (1, .slice none 0 0), (4, .bool false), (25, .slice (some ⟨0, 0, none⟩) n cap), (26, .int .i64 (n : Int)), (27, .int .i64 ((7 : Nat) : Int)), (7, .pointer (some ⟨21, 0, none⟩)), (9, .bool true)] [(0, .cells (rws (cq N Q C) (List.range m)) 0 false), (1, .cells (rws rc (Q 0)) 0 false), (2, .cells (rws rc (Q 1)) 0 false), (3, .cells (rws rc (Q 2)) 0 false), (4, .cells (rws rc (Q 3)) 0 false), (5, .cells (rws rc (Q 4)) 0 false), (6, .cells (rws rc (Q 5)) 0 false), (7, .cells (rws rc (Q 6)) 0 false), (8, .cells (rws rc (Q 7)) 0 false), (9, .cells (rws rc (Q 8)) 0 false), (10, .cells (rws rc R) 0 false), (16, .cells (rws rc q ++ sp) 67 true), (21, .cells [.slice (some ⟨16, 0, none⟩) q.length ca] 55 true)] 23 (by decide) ⟨rfl, rfl, rfl, rfl, rfl, rfl, rfl, rfl, trivial⟩ ⟨sb rfl, sb rfl, sb rfl, sb rfl, sb rfl, sb rfl, sb rfl, sb rfl, sb rfl, sb rfl, sb rfl, sb rfl, sb rfl, trivial⟩ rfl (bdH_b (by decide) (row_bd fun k hk => by have := List.mem_range.1 hk; omega) (bdH_c (by decide) (rcs_plain (Q 0)) (bdH_c (by decide) (rcs_plain (Q 1)) (bdH_c (by decide) (rcs_plain (Q 2)) (bdH_c (by decide) (rcs_plain (Q 3)) (bdH_c (by decide) (rcs_plain (Q 4)) (bdH_c (by decide) (rcs_plain (Q 5)) (bdH_c (by decide) (rcs_plain (Q 6)) (bdH_c (by decide) (rcs_plain (Q 7)) (bdH_c (by decide) (rcs_plain (Q 8)) (bdH_c (by decide) (rcs_plain R) (bdH_c (by decide) (plainL_append (rcs_plain _) hsp) (bdH_b (by decide) rfl rfl))))))))))))), rfl⟩
            · skip
              rintro s2 rfl
              have h40 := p40 q ca (by omega)
              rw [topQ_yes hokq] at h40
              have h73 := p73 q ca (by omega) (by rw [hq]; exact fun r hr => hB i r (List.mem_of_mem_take hr))
              refine vc_seq ?_
              refine vc_reg (by kernel_rfl) fun K hK => ?_
              refine run_n (z := false) 1 (fun K' hK' => hK' _ _ _ ?_) (by decide)
              clear hK' K'
              refine run_ro (fun _ => (16, 0)) (h40) ?_ rfl rfl rfl rfl ?_
              · intro x hx
                simp only [List.mem_singleton] at hx
                subst hx
                exact ⟨_, _, _, rfl, get_zero_app⟩
              refine run_end (z := false) fun K' hK' => hK' _ _ _ (hK _ _ _ ?_)
              clear hK' K' hK K
              refine vc_seq ?_
              refine vc_reg (by kernel_rfl) fun K hK => ?_
              refine run_n (z := false) 1 (fun K' hK' => hK' _ _ _ ?_) (by decide)
              clear hK' K'
              refine run_ro (fun _ => (16, 0)) (h73) ?_ rfl rfl rfl rfl ?_
              · intro x hx
                simp only [List.mem_singleton] at hx
                subst hx
                exact ⟨_, _, _, rfl, get_zero_app⟩
              refine run_end (z := false) fun K' hK' => hK' _ _ _ (hK _ _ _ ?_)
              clear hK' K' hK K
              refine vc_seq ?_
              refine vc_seq ?_
              refine vc_reg (by kernel_rfl) fun K hK => ?_
              refine run_n (z := false) 2 (fun K' hK' => hK' _ _ _ ?_) (by decide)
              clear hK' K'
              refine vgo_known 83 (b := true) (rfl) ?_
              refine run_n (z := false) 4 (fun K' hK' => hK' _ _ _ ?_) (by decide)
              clear hK' K'
              refine vgo_known 87 (b := false) (bb (fr_neq _ _)) ?_
              refine run_n (z := false) 6 (fun K' hK' => hK' _ _ _ ?_) (by decide)
              clear hK' K'
              refine vgo_known 93 (b := false) (bb (by simp)) ?_
              refine run_n (z := false) 3 (fun K' hK' => hK' _ _ _ ?_) (by decide)
              clear hK' K'
              refine vgo_known 96 (b := false) (rfl) ?_
              refine run_end (z := false) fun K' hK' => hK' _ _ _ (hK _ _ _ ?_)
              clear hK' K' hK K
              refine vc_cond (t := false) rfl (fun h => by cases h) (fun _ => ?_)
              refine vc_skip ?_
              refine vc_seq ?_
              refine vc_go (by kernel_rfl) fun K hK => hK _ _ _ ?_
              clear hK K
              refine vc_block ?_
              refine vc_loopF (fun k s => ∃ (j : Nat), k = 18 - j ∧ j ≤ 18 ∧ s = can [(0, .slice (some ⟨0, 0, none⟩) n cap), (1, .slice none 0 0), (4, .bool false), (25, .slice (some ⟨0, 0, none⟩) n cap), (26, .int .i64 (n : Int)), (27, .int .i64 ((i : Nat) : Int)), (7, .pointer (some ⟨21, 0, none⟩)), (9, .bool true), (105, .int .i64 ((j : Nat) : Int))] [(0, .cells (rws (cq N Q C) (List.range m)) 0 false), (1, .cells (rws rc (Q 0)) 0 false), (2, .cells (rws rc (Q 1)) 0 false), (3, .cells (rws rc (Q 2)) 0 false), (4, .cells (rws rc (Q 3)) 0 false), (5, .cells (rws rc (Q 4)) 0 false), (6, .cells (rws rc (Q 5)) 0 false), (7, .cells (rws rc (Q 6)) 0 false), (8, .cells (rws rc (Q 7)) 0 false), (9, .cells (rws rc (Q 8)) 0 false), (10, .cells (rws rc R) 0 false), (16, .cells (rws rc q ++ sp) 67 true), (21, .cells [.slice (some ⟨16, 0, none⟩) q.length ca] 55 true)] 23) 18 ?_ ?_
              · exact ⟨_, fg_focus [(0, .slice (some ⟨0, 0, none⟩) n cap), (1, .slice none 0 0), (4, .bool false), (25, .slice (some ⟨0, 0, none⟩) n cap), (26, .int .i64 (n : Int)), (27, .int .i64 ((i : Nat) : Int)), (7, .pointer (some ⟨21, 0, none⟩)), (9, .bool true), (105, .int .i64 ((0 : Nat) : Int))] [(0, .cells (rws (cq N Q C) (List.range m)) 0 false), (1, .cells (rws rc (Q 0)) 0 false), (2, .cells (rws rc (Q 1)) 0 false), (3, .cells (rws rc (Q 2)) 0 false), (4, .cells (rws rc (Q 3)) 0 false), (5, .cells (rws rc (Q 4)) 0 false), (6, .cells (rws rc (Q 5)) 0 false), (7, .cells (rws rc (Q 6)) 0 false), (8, .cells (rws rc (Q 7)) 0 false), (9, .cells (rws rc (Q 8)) 0 false), (10, .cells (rws rc R) 0 false), (16, .cells (rws rc q ++ sp) 67 true), (21, .cells [.slice (some ⟨16, 0, none⟩) q.length ca] 55 true)] 23 (by decide) ⟨rfl, rfl, rfl, rfl, rfl, rfl, rfl, rfl, rfl, trivial⟩ ⟨sb rfl, sb rfl, sb rfl, sb rfl, sb rfl, sb rfl, sb rfl, sb rfl, sb rfl, sb rfl, sb rfl, sb rfl, sb rfl, trivial⟩ rfl (bdH_b (by decide) (row_bd fun k hk => by have := List.mem_range.1 hk; omega) (bdH_c (by decide) (rcs_plain (Q 0)) (bdH_c (by decide) (rcs_plain (Q 1)) (bdH_c (by decide) (rcs_plain (Q 2)) (bdH_c (by decide) (rcs_plain (Q 3)) (bdH_c (by decide) (rcs_plain (Q 4)) (bdH_c (by decide) (rcs_plain (Q 5)) (bdH_c (by decide) (rcs_plain (Q 6)) (bdH_c (by decide) (rcs_plain (Q 7)) (bdH_c (by decide) (rcs_plain (Q 8)) (bdH_c (by decide) (rcs_plain R) (bdH_c (by decide) (plainL_append (rcs_plain _) hsp) (bdH_b (by decide) rfl rfl))))))))))))), 0, rfl, by decide, rfl⟩
              · rintro k2 s ⟨j, hk2, hj, rfl⟩
                refine vc_seq ?_
                refine vc_go (by kernel_rfl) fun K hK => hK _ _ _ ?_
                clear hK K
                refine vc_seq ?_
                refine vc_cond rfl (fun c2 => ?_) (fun c2 => ?_)
                · -- cond 24 t106 true
                  refine vc_skip ?_
                  refine vc_seq ?_
                  refine vc_block ?_
                  refine vc_seq ?_
                  refine vc_go (by kernel_rfl) fun K hK => hK _ _ _ ?_
                  clear hK K
                  refine vc_seq ?_
                  have hj18 : j < 18 := by have := of_decide_eq_true c2; omega
                  have h43 := p43 q ca (j : Int) (by omega)
                  have h74 := p74 q ca (j : Int) (by omega)
                  rw [get_right ⟨by omega, by omega⟩, if_pos hokq] at h43
                  refine vc_reg (by kernel_rfl) fun K hK => ?_
                  refine run_n (z := false) 2 (fun K' hK' => hK' _ _ _ ?_) (by decide)
                  clear hK' K'
                  refine run_ro (fun _ => (16, 0)) (h43) ?_ rfl rfl rfl rfl ?_
                  · intro x hx
                    simp only [List.mem_singleton] at hx
                    subst hx
                    exact ⟨_, _, _, rfl, get_zero_app⟩
                  refine run_end (z := false) fun K' hK' => hK' _ _ _ (hK _ _ _ ?_)
                  clear hK' K' hK K
                  refine vc_seq ?_
                  refine vc_reg (by kernel_rfl) fun K hK => ?_
                  refine run_n (z := false) 2 (fun K' hK' => hK' _ _ _ ?_) (by decide)
                  clear hK' K'
                  refine run_ro (fun _ => (16, 0)) (h74) ?_ rfl rfl rfl rfl ?_
                  · intro x hx
                    simp only [List.mem_singleton] at hx
                    subst hx
                    exact ⟨_, _, _, rfl, get_zero_app⟩
                  refine run_end (z := false) fun K' hK' => hK' _ _ _ (hK _ _ _ ?_)
                  clear hK' K' hK K
                  refine vc_seq ?_
                  refine vc_reg (by kernel_rfl) fun K hK => ?_
                  refine run_n (z := false) 2 (fun K' hK' => hK' _ _ _ ?_) (by decide)
                  clear hK' K'
                  refine vgo_known 121 (b := true) (rfl) ?_
                  refine run_n (z := false) 4 (fun K' hK' => hK' _ _ _ ?_) (by decide)
                  clear hK' K'
                  refine vgo_known 125 (b := false) (bb (by rw [rn_beq]; simp)) ?_
                  refine run_n (z := false) 6 (fun K' hK' => hK' _ _ _ ?_) (by decide)
                  clear hK' K'
                  refine vgo_known 131 (b := false) (bb (by simp)) ?_
                  refine run_n (z := false) 3 (fun K' hK' => hK' _ _ _ ?_) (by decide)
                  clear hK' K'
                  refine vgo_known 134 (b := false) (rfl) ?_
                  refine run_end (z := false) fun K' hK' => hK' _ _ _ (hK _ _ _ ?_)
                  clear hK' K' hK K
                  refine vc_cond (t := false) rfl (fun h => by cases h) (fun _ => ?_)
                  refine vc_skip ?_
                  refine vc_go (by kernel_rfl) fun K hK => hK _ _ _ ?_
                  clear hK K
                  exact ⟨_, fg_focus [(0, .slice (some ⟨0, 0, none⟩) n cap), (1, .slice none 0 0), (4, .bool false), (25, .slice (some ⟨0, 0, none⟩) n cap), (26, .int .i64 (n : Int)), (27, .int .i64 ((i : Nat) : Int)), (7, .pointer (some ⟨21, 0, none⟩)), (9, .bool true), (105, .int .i64 ((j + 1 : Nat) : Int))] [(0, .cells (rws (cq N Q C) (List.range m)) 0 false), (1, .cells (rws rc (Q 0)) 0 false), (2, .cells (rws rc (Q 1)) 0 false), (3, .cells (rws rc (Q 2)) 0 false), (4, .cells (rws rc (Q 3)) 0 false), (5, .cells (rws rc (Q 4)) 0 false), (6, .cells (rws rc (Q 5)) 0 false), (7, .cells (rws rc (Q 6)) 0 false), (8, .cells (rws rc (Q 7)) 0 false), (9, .cells (rws rc (Q 8)) 0 false), (10, .cells (rws rc R) 0 false), (16, .cells (rws rc q ++ sp) 67 true), (21, .cells [.slice (some ⟨16, 0, none⟩) q.length ca] 55 true)] 23 (by decide) ⟨rfl, rfl, rfl, rfl, rfl, rfl, rfl, rfl, ii (wrapI (by omega) (by omega)), trivial⟩ ⟨sb rfl, sb rfl, sb rfl, sb rfl, sb rfl, sb rfl, sb rfl, sb rfl, sb rfl, sb rfl, sb rfl, sb rfl, sb rfl, trivial⟩ rfl (bdH_b (by decide) (row_bd fun k hk => by have := List.mem_range.1 hk; omega) (bdH_c (by decide) (rcs_plain (Q 0)) (bdH_c (by decide) (rcs_plain (Q 1)) (bdH_c (by decide) (rcs_plain (Q 2)) (bdH_c (by decide) (rcs_plain (Q 3)) (bdH_c (by decide) (rcs_plain (Q 4)) (bdH_c (by decide) (rcs_plain (Q 5)) (bdH_c (by decide) (rcs_plain (Q 6)) (bdH_c (by decide) (rcs_plain (Q 7)) (bdH_c (by decide) (rcs_plain (Q 8)) (bdH_c (by decide) (rcs_plain R) (bdH_c (by decide) (plainL_append (rcs_plain _) hsp) (bdH_b (by decide) rfl rfl))))))))))))), 18 - (j + 1), by omega, j + 1, rfl, by omega, rfl⟩
                · -- cond 24 t106 false
                  refine vc_exit ?_
                  refine vc_go (by kernel_rfl) fun K hK => hK _ _ _ ?_
                  clear hK K
                  exact ⟨_, fg_focus [(0, .slice (some ⟨0, 0, none⟩) n cap), (1, .slice none 0 0), (4, .bool false), (25, .slice (some ⟨0, 0, none⟩) n cap), (26, .int .i64 (n : Int)), (27, .int .i64 ((i + 1 : Nat) : Int))] [(0, .cells (rws (cq N Q C) (List.range m)) 0 false), (1, .cells (rws rc (Q 0)) 0 false), (2, .cells (rws rc (Q 1)) 0 false), (3, .cells (rws rc (Q 2)) 0 false), (4, .cells (rws rc (Q 3)) 0 false), (5, .cells (rws rc (Q 4)) 0 false), (6, .cells (rws rc (Q 5)) 0 false), (7, .cells (rws rc (Q 6)) 0 false), (8, .cells (rws rc (Q 7)) 0 false), (9, .cells (rws rc (Q 8)) 0 false), (10, .cells (rws rc R) 0 false)] 11 (by decide) ⟨rfl, rfl, rfl, rfl, rfl, ii (wrapI (by omega) (by omega)), trivial⟩ ⟨sb rfl, sb rfl, sb rfl, sb rfl, sb rfl, sb rfl, sb rfl, sb rfl, sb rfl, sb rfl, sb rfl, trivial⟩ rfl (bdH_b (by decide) (row_bd fun k hk => by have := List.mem_range.1 hk; omega) (bdH_c (by decide) (rcs_plain (Q 0)) (bdH_c (by decide) (rcs_plain (Q 1)) (bdH_c (by decide) (rcs_plain (Q 2)) (bdH_c (by decide) (rcs_plain (Q 3)) (bdH_c (by decide) (rcs_plain (Q 4)) (bdH_c (by decide) (rcs_plain (Q 5)) (bdH_c (by decide) (rcs_plain (Q 6)) (bdH_c (by decide) (rcs_plain (Q 7)) (bdH_c (by decide) (rcs_plain (Q 8)) (bdH_c (by decide) (rcs_plain R) rfl))))))))))), n - (i + 1), by omega, i + 1, rfl, hlt, by (have : i ≠ 8 := by rintro rfl; simp at h8); omega, rfl⟩
    · -- cond 1 t28 false
      refine vc_exit ?_
      refine vc_seq ?_
      refine vc_seq ?_
      refine vc_go (by kernel_rfl) fun K hK => hK _ _ _ ?_
      clear hK K
      refine vc_block ?_
      refine vc_rounds 1 ?_
      refine vc_seq ?_
      refine vc_go (by kernel_rfl) fun K hK => hK _ _ _ ?_
      clear hK K
      refine vc_seq ?_
      refine vc_cond (t := false) rfl (fun h => by cases h) (fun _ => ?_)
      refine vc_exit ?_
      refine vc_seq ?_
      refine vc_go (by kernel_rfl) fun K hK => hK _ _ _ ?_
      clear hK K
      exact vc_ret ⟨.inr rfl, rfl⟩
end Go.Proofs.Ytdfkcijholopoaa.Vm
