/- The number of a text of digits. -/
import Derived.Test.YtdfkcijholopoaaSc
import Derived.Test.YtdfkcijholopoaaVm23
import Derived.Test.YtdfkcijholopoaaBg
namespace Go.Proofs.Ytdfkcijholopoaa.Vm
open Go Go.RowKit
set_option maxRecDepth 10000
set_option linter.unusedSimpArgs false
set_option linter.unusedVariables false

theorem dig_back {d : Nat} (h : d < 10) : IntKind.u64.wrap (IntKind.i32.wrap (((48 + d : Nat) : Int) - 48)) = (d : Int) := by
  match d, h with
  | 0, _ => rfl
  | 1, _ => rfl
  | 2, _ => rfl
  | 3, _ => rfl
  | 4, _ => rfl
  | 5, _ => rfl
  | 6, _ => rfl
  | 7, _ => rfl
  | 8, _ => rfl
  | 9, _ => rfl
theorem blkq {m : Nat} {A B : Nat} (h : A = B) : some (Blk.cells (limbs A) m true) = some (.cells (limbs B) m true) := by rw [h]

theorem p50s {l : List Nat} (h0 : 0 < l.length) (h39 : l.length ≤ 39) (h10 : ∀ d ∈ l, d < 10) (hv : dv l < 2 ^ 128) (hs : ¬ 1 < l.length) : Pure 50 [.string (bs l)] (.tuple #[wd (dv l), .int .i64 0]) := by
  refine pure_of Try.func50 rfl Try.ntmps50 (by kernel_rfl) rfl (by simp) rfl ?_
  refine vc_seq ?_
  refine vc_go (by kernel_rfl) fun K hK => hK _ _ _ ?_
  clear hK K
  refine vc_seq ?_
  refine vc_block ?_
  refine vc_seq ?_
  refine vc_reg (by kernel_rfl) fun K hK => ?_
  refine run_n (z := false) 1 (fun K' hK' => hK' _ _ _ ?_) (by decide)
  clear hK' K'
  refine run_val rfl rfl (v := (.int .i64 (l.length : Int))) (fun e w he => by rw [← bs_size l]; exact ex_len9 rfl (he _ (by simp [Op.operands, Call.operands]))) (fun x hx => by simp [Op.operands, Call.operands] at hx; subst hx; rfl) rfl rfl ?_
  refine run_end (z := false) fun K' hK' => hK' _ _ _ (hK _ _ _ ?_)
  clear hK' K' hK K
  refine vc_cond (t := false) (bb (by rw [decide_eq_false_iff_not]; omega)) (fun h => by cases h) (fun _ => ?_)
  refine vc_seq ?_
  refine vc_reg (by kernel_rfl) fun K hK => ?_
  refine run_n (z := false) 1 (fun K' hK' => hK' _ _ _ ?_) (by decide)
  clear hK' K'
  refine run_val rfl rfl (v := (.bool false)) (fun e w he => by rw [← bs_ne l h0]; exact ex_eql9 rfl (he _ (by simp [Op.operands])) (he _ (by simp [Op.operands]))) (fun x hx => by simp [Op.operands, Call.operands] at hx; rcases hx with rfl | rfl <;> rfl) rfl rfl ?_
  refine run_n (z := false) 1 (fun K' hK' => hK' _ _ _ ?_) (by decide)
  clear hK' K'
  refine vgo_known 17 (b := false) (rfl) ?_
  refine run_n (z := false) 1 (fun K' hK' => hK' _ _ _ ?_) (by decide)
  clear hK' K'
  refine run_val rfl rfl (v := (.int .i64 (l.length : Int))) (fun e w he => by rw [← bs_size l]; exact ex_len9 rfl (he _ (by simp [Op.operands, Call.operands]))) (fun x hx => by simp [Op.operands, Call.operands] at hx; subst hx; rfl) rfl rfl ?_
  refine run_n (z := false) 2 (fun K' hK' => hK' _ _ _ ?_) (by decide)
  clear hK' K'
  refine vgo_known 21 (b := false) (bb (by rw [decide_eq_false_iff_not]; omega)) ?_
  refine run_end (z := false) fun K' hK' => hK' _ _ _ (hK _ _ _ ?_)
  clear hK' K' hK K
  refine vc_cond (t := false) rfl (fun h => by cases h) (fun _ => ?_)
  refine vc_skip ?_
  refine vc_seq ?_
  refine vc_go (by kernel_rfl) fun K hK => hK _ _ _ ?_
  clear hK K
  refine vc_seq ?_
  refine vc_seq ?_
  refine vc_reg (by kernel_rfl) fun K hK => ?_
  refine run_n (z := false) 1 (fun K' hK' => hK' _ _ _ ?_) (by decide)
  clear hK' K'
  refine run_sp (sp_range rfl rfl) rfl rfl rfl ⟨_, _, rfl, rfl⟩ ?_
  rintro _ _ ⟨rfl, rfl⟩
  refine run_end (z := false) fun K' hK' => hK' _ _ _ (hK _ _ _ ?_)
  clear hK' K' hK K
  refine vc_block ?_
  refine vc_loop (fun n s => ∃ k : Nat, n = l.length - k ∧ k ≤ l.length ∧ IsSt [(0, .string (bs l)), (2, .pointer (some ⟨0, 0, none⟩)), (3, .int .i64 0), (4, .pointer (some ⟨1, 0, none⟩)), (29, .pointer (some ⟨3, 0, none⟩))] [(0, .cells [u0, u0] 24 true), (1, .cells (limbs (dv (l.take k))) 116 true), (3, .obj (.stringIter (bs l) k))] 4 s) l.length ?_ ?_
  · exact ⟨0, rfl, Nat.zero_le _, isSt ⟨rfl, rfl, rfl, rfl, rfl, trivial⟩ ⟨rfl, (by rw [List.take_zero]; rfl), rfl, trivial⟩ rfl⟩
  · rintro n s ⟨k, hn, hk, t, h, rfl⟩
    rcases Nat.lt_or_ge k l.length with hlt | hge
    · obtain ⟨d, hd⟩ : ∃ d, l[k]? = some d := ⟨l[k], List.getElem?_eq_getElem hlt⟩
      have hd10 : d < 10 := h10 d (List.mem_of_getElem? hd)
      have hle := dv_take_le l (k + 1)
      rw [dv_take_succ l k d hd] at hle
      have hv2 : dv (l.take k) < 2 ^ 224 := by omega
      have hval : (dv (l.take k) * 10 + d) % 2 ^ 224 = dv (l.take (k + 1)) := by rw [dv_take_succ l k d hd]; exact Nat.mod_eq_of_lt (by omega)
      refine vc_seq ?_
      refine vc_reg (by kernel_rfl) fun K hK => ?_
      refine run_sp (sp_nextd (bs_decode l k d hd hd10) rfl rfl rfl (by rw [bs_size]; exact hlt)) rfl rfl rfl ⟨_, _, rfl, rfl⟩ ?_
      rintro _ _ ⟨rfl, rfl⟩
      refine run_end (z := false) fun K' hK' => hK' _ _ _ (hK _ _ _ ?_)
      clear hK' K' hK K
      refine vc_seq ?_
      refine vc_cond (t := true) rfl (fun _ => ?_) (fun h => by cases h)
      refine vc_skip ?_
      refine vc_block ?_
      refine vc_seq ?_
      refine vc_go (by kernel_rfl) fun K hK => hK _ _ _ ?_
      clear hK K
      refine vc_seq ?_
      refine vc_seq ?_
      refine vc_reg (by kernel_rfl) fun K hK => ?_
      refine run_n (z := false) 3 (fun K' hK' => hK' _ _ _ ?_) (by decide)
      clear hK' K'
      refine vgo_known 35 (b := false) (bb (by rw [decide_eq_false_iff_not]; omega)) ?_
      refine run_end (z := false) fun K' hK' => hK' _ _ _ (hK _ _ _ ?_)
      clear hK' K' hK K
      refine vc_cond (t := false) (bb (by rw [decide_eq_false_iff_not]; omega)) (fun h => by cases h) (fun _ => ?_)
      refine vc_skip ?_
      refine vc_reg (by kernel_rfl) fun K hK => ?_
      refine run_n (z := false) 4 (fun K' hK' => hK' _ _ _ ?_) (by decide)
      clear hK' K'
      refine run_call (p84 (dv (l.take k)) 10 d hv2 (by decide) (by omega)) rfl (congrArg (fun x => [q7 (dv (l.take k)), u64 10, .int .u64 x]) (dig_back hd10)) rfl rfl ?_
      refine run_end (z := false) fun K' hK' => hK' _ _ _ (hK _ _ _ ?_)
      clear hK' K' hK K
      exact ⟨l.length - (k + 1), by omega, k + 1, rfl, hlt, isSt ⟨rfl, rfl, rfl, rfl, rfl, trivial⟩ ⟨rfl, blkq hval, rfl, trivial⟩ rfl⟩
    · obtain rfl : k = l.length := by omega
      have hd1 : dv l = dv (l.take l.length) := by rw [List.take_length]
      have hvl : dv (l.take l.length) < 2 ^ 128 := by rw [List.take_length]; exact hv
      refine vc_seq ?_
      refine vc_reg (by kernel_rfl) fun K hK => ?_
      refine run_sp (sp_over rfl rfl rfl (by rw [bs_size]; omega)) rfl rfl rfl ⟨_, _, rfl, rfl⟩ ?_
      rintro _ _ ⟨rfl, rfl⟩
      refine run_end (z := false) fun K' hK' => hK' _ _ _ (hK _ _ _ ?_)
      clear hK' K' hK K
      refine vc_seq ?_
      refine vc_cond (t := false) rfl (fun h => by cases h) (fun _ => ?_)
      refine vc_exit ?_
      refine vc_seq ?_
      refine vc_reg (by kernel_rfl) fun K hK => ?_
      refine run_n (z := false) 1 (fun K' hK' => hK' _ _ _ ?_) (by decide)
      clear hK' K'
      refine run_call (p79w hvl) rfl rfl rfl rfl ?_
      refine run_end (z := false) fun K' hK' => hK' _ _ _ (hK _ _ _ ?_)
      clear hK' K' hK K
      refine vc_seq ?_
      refine vc_seq ?_
      refine vc_go (by kernel_rfl) fun K hK => hK _ _ _ ?_
      clear hK K
      refine vc_cond (t := false) rfl (fun h => by cases h) (fun _ => ?_)
      refine vc_skip ?_
      refine vc_seq ?_
      refine vc_go (by kernel_rfl) fun K hK => hK _ _ _ ?_
      clear hK K
      refine vc_ret ⟨.inr rfl, ?_⟩
      rw [hd1]
      rfl

theorem p50l {l : List Nat} (h0 : 0 < l.length) (h39 : l.length ≤ 39) (h10 : ∀ d ∈ l, d < 10) (hv : dv l < 2 ^ 128) (hs : 1 < l.length) {d0 : Nat} (hd0 : l[0]? = some d0) (hne : d0 ≠ 0) : Pure 50 [.string (bs l)] (.tuple #[wd (dv l), .int .i64 0]) := by
  have hd9 : d0 < 10 := h10 d0 (List.mem_of_getElem? hd0)
  have hb0 : (bs l)[0]? = some (UInt8.ofNat (48 + d0)) := by
    have hk : 0 < (bs l).size := by rw [bs_size]; exact h0
    rw [getElem?_pos (bs l) 0 hk]
    show some ((bs l).data[0]'hk) = _
    have h2 := (List.getElem?_eq_some_iff.1 hd0).2
    simp [bs, h2]
  have hn48 : ((UInt8.ofNat (48 + d0)).toNat : Int) ≠ 48 := by
    rw [UInt8.toNat_ofNat']
    omega
  refine pure_of Try.func50 rfl Try.ntmps50 (by kernel_rfl) rfl (by simp) rfl ?_
  refine vc_seq ?_
  refine vc_go (by kernel_rfl) fun K hK => hK _ _ _ ?_
  clear hK K
  refine vc_seq ?_
  refine vc_block ?_
  refine vc_seq ?_
  refine vc_reg (by kernel_rfl) fun K hK => ?_
  refine run_n (z := false) 1 (fun K' hK' => hK' _ _ _ ?_) (by decide)
  clear hK' K'
  refine run_val rfl rfl (v := (.int .i64 (l.length : Int))) (fun e w he => by rw [← bs_size l]; exact ex_len9 rfl (he _ (by simp [Op.operands, Call.operands]))) (fun x hx => by simp [Op.operands, Call.operands] at hx; subst hx; rfl) rfl rfl ?_
  refine run_end (z := false) fun K' hK' => hK' _ _ _ (hK _ _ _ ?_)
  clear hK' K' hK K
  refine vc_cond (t := false) (bb (by rw [decide_eq_false_iff_not]; omega)) (fun h => by cases h) (fun _ => ?_)
  refine vc_seq ?_
  refine vc_reg (by kernel_rfl) fun K hK => ?_
  refine run_n (z := false) 1 (fun K' hK' => hK' _ _ _ ?_) (by decide)
  clear hK' K'
  refine run_val rfl rfl (v := (.bool false)) (fun e w he => by rw [← bs_ne l h0]; exact ex_eql9 rfl (he _ (by simp [Op.operands])) (he _ (by simp [Op.operands]))) (fun x hx => by simp [Op.operands, Call.operands] at hx; rcases hx with rfl | rfl <;> rfl) rfl rfl ?_
  refine run_n (z := false) 1 (fun K' hK' => hK' _ _ _ ?_) (by decide)
  clear hK' K'
  refine vgo_known 17 (b := false) (rfl) ?_
  refine run_n (z := false) 1 (fun K' hK' => hK' _ _ _ ?_) (by decide)
  clear hK' K'
  refine run_val rfl rfl (v := (.int .i64 (l.length : Int))) (fun e w he => by rw [← bs_size l]; exact ex_len9 rfl (he _ (by simp [Op.operands, Call.operands]))) (fun x hx => by simp [Op.operands, Call.operands] at hx; subst hx; rfl) rfl rfl ?_
  refine run_n (z := false) 2 (fun K' hK' => hK' _ _ _ ?_) (by decide)
  clear hK' K'
  refine vgo_known 21 (b := true) (bb (by rw [decide_eq_true_eq]; omega)) ?_
  refine run_n (z := false) 1 (fun K' hK' => hK' _ _ _ ?_) (by decide)
  clear hK' K'
  refine run_val rfl rfl (v := (.int .u8 ((UInt8.ofNat (48 + d0)).toNat : Int))) (fun e w he => ex_ix9 (i := 0) rfl (he _ (by simp [Op.operands])) (he _ (by simp [Op.operands])) hb0) (fun x hx => by simp [Op.operands, Call.operands] at hx; rcases hx with rfl | rfl <;> rfl) rfl rfl ?_
  refine run_end (z := false) fun K' hK' => hK' _ _ _ (hK _ _ _ ?_)
  clear hK' K' hK K
  refine vc_cond (t := false) (bb (by rw [beq_eq_false_iff_ne]; exact hn48)) (fun h => by cases h) (fun _ => ?_)
  refine vc_skip ?_
  refine vc_seq ?_
  refine vc_go (by kernel_rfl) fun K hK => hK _ _ _ ?_
  clear hK K
  refine vc_seq ?_
  refine vc_seq ?_
  refine vc_reg (by kernel_rfl) fun K hK => ?_
  refine run_n (z := false) 1 (fun K' hK' => hK' _ _ _ ?_) (by decide)
  clear hK' K'
  refine run_sp (sp_range rfl rfl) rfl rfl rfl ⟨_, _, rfl, rfl⟩ ?_
  rintro _ _ ⟨rfl, rfl⟩
  refine run_end (z := false) fun K' hK' => hK' _ _ _ (hK _ _ _ ?_)
  clear hK' K' hK K
  refine vc_block ?_
  refine vc_loop (fun n s => ∃ k : Nat, n = l.length - k ∧ k ≤ l.length ∧ IsSt [(0, .string (bs l)), (2, .pointer (some ⟨0, 0, none⟩)), (3, .int .i64 0), (4, .pointer (some ⟨1, 0, none⟩)), (29, .pointer (some ⟨3, 0, none⟩))] [(0, .cells [u0, u0] 24 true), (1, .cells (limbs (dv (l.take k))) 116 true), (3, .obj (.stringIter (bs l) k))] 4 s) l.length ?_ ?_
  · exact ⟨0, rfl, Nat.zero_le _, isSt ⟨rfl, rfl, rfl, rfl, rfl, trivial⟩ ⟨rfl, (by rw [List.take_zero]; rfl), rfl, trivial⟩ rfl⟩
  · rintro n s ⟨k, hn, hk, t, h, rfl⟩
    rcases Nat.lt_or_ge k l.length with hlt | hge
    · obtain ⟨d, hd⟩ : ∃ d, l[k]? = some d := ⟨l[k], List.getElem?_eq_getElem hlt⟩
      have hd10 : d < 10 := h10 d (List.mem_of_getElem? hd)
      have hle := dv_take_le l (k + 1)
      rw [dv_take_succ l k d hd] at hle
      have hv2 : dv (l.take k) < 2 ^ 224 := by omega
      have hval : (dv (l.take k) * 10 + d) % 2 ^ 224 = dv (l.take (k + 1)) := by rw [dv_take_succ l k d hd]; exact Nat.mod_eq_of_lt (by omega)
      refine vc_seq ?_
      refine vc_reg (by kernel_rfl) fun K hK => ?_
      refine run_sp (sp_nextd (bs_decode l k d hd hd10) rfl rfl rfl (by rw [bs_size]; exact hlt)) rfl rfl rfl ⟨_, _, rfl, rfl⟩ ?_
      rintro _ _ ⟨rfl, rfl⟩
      refine run_end (z := false) fun K' hK' => hK' _ _ _ (hK _ _ _ ?_)
      clear hK' K' hK K
      refine vc_seq ?_
      refine vc_cond (t := true) rfl (fun _ => ?_) (fun h => by cases h)
      refine vc_skip ?_
      refine vc_block ?_
      refine vc_seq ?_
      refine vc_go (by kernel_rfl) fun K hK => hK _ _ _ ?_
      clear hK K
      refine vc_seq ?_
      refine vc_seq ?_
      refine vc_reg (by kernel_rfl) fun K hK => ?_
      refine run_n (z := false) 3 (fun K' hK' => hK' _ _ _ ?_) (by decide)
      clear hK' K'
      refine vgo_known 35 (b := false) (bb (by rw [decide_eq_false_iff_not]; omega)) ?_
      refine run_end (z := false) fun K' hK' => hK' _ _ _ (hK _ _ _ ?_)
      clear hK' K' hK K
      refine vc_cond (t := false) (bb (by rw [decide_eq_false_iff_not]; omega)) (fun h => by cases h) (fun _ => ?_)
      refine vc_skip ?_
      refine vc_reg (by kernel_rfl) fun K hK => ?_
      refine run_n (z := false) 4 (fun K' hK' => hK' _ _ _ ?_) (by decide)
      clear hK' K'
      refine run_call (p84 (dv (l.take k)) 10 d hv2 (by decide) (by omega)) rfl (congrArg (fun x => [q7 (dv (l.take k)), u64 10, .int .u64 x]) (dig_back hd10)) rfl rfl ?_
      refine run_end (z := false) fun K' hK' => hK' _ _ _ (hK _ _ _ ?_)
      clear hK' K' hK K
      exact ⟨l.length - (k + 1), by omega, k + 1, rfl, hlt, isSt ⟨rfl, rfl, rfl, rfl, rfl, trivial⟩ ⟨rfl, blkq hval, rfl, trivial⟩ rfl⟩
    · obtain rfl : k = l.length := by omega
      have hd1 : dv l = dv (l.take l.length) := by rw [List.take_length]
      have hvl : dv (l.take l.length) < 2 ^ 128 := by rw [List.take_length]; exact hv
      refine vc_seq ?_
      refine vc_reg (by kernel_rfl) fun K hK => ?_
      refine run_sp (sp_over rfl rfl rfl (by rw [bs_size]; omega)) rfl rfl rfl ⟨_, _, rfl, rfl⟩ ?_
      rintro _ _ ⟨rfl, rfl⟩
      refine run_end (z := false) fun K' hK' => hK' _ _ _ (hK _ _ _ ?_)
      clear hK' K' hK K
      refine vc_seq ?_
      refine vc_cond (t := false) rfl (fun h => by cases h) (fun _ => ?_)
      refine vc_exit ?_
      refine vc_seq ?_
      refine vc_reg (by kernel_rfl) fun K hK => ?_
      refine run_n (z := false) 1 (fun K' hK' => hK' _ _ _ ?_) (by decide)
      clear hK' K'
      refine run_call (p79w hvl) rfl rfl rfl rfl ?_
      refine run_end (z := false) fun K' hK' => hK' _ _ _ (hK _ _ _ ?_)
      clear hK' K' hK K
      refine vc_seq ?_
      refine vc_seq ?_
      refine vc_go (by kernel_rfl) fun K hK => hK _ _ _ ?_
      clear hK K
      refine vc_cond (t := false) rfl (fun h => by cases h) (fun _ => ?_)
      refine vc_skip ?_
      refine vc_seq ?_
      refine vc_go (by kernel_rfl) fun K hK => hK _ _ _ ?_
      clear hK K
      refine vc_ret ⟨.inr rfl, ?_⟩
      rw [hd1]
      rfl

theorem p50 {a : Nat} (ha : a < 2 ^ 128) : Pure 50 [.string (dgs 39 a)] (.tuple #[wd a, .int .i64 0]) := by
  have hb : a < 10 ^ 39 := Nat.lt_trans ha (by decide)
  have hdv := dv_dl 39 a hb
  rw [dgs_bs]
  have key : Pure 50 [.string (bs (dl 39 a))] (.tuple #[wd (dv (dl 39 a)), .int .i64 0]) := by
    by_cases h1 : 1 < (dl 39 a).length
    · refine p50l (dl_pos 38 a) (dl_len 39 a) (dl_lt 39 a) (by rw [hdv]; exact ha) h1 (List.getElem?_eq_getElem (by omega)) fun h => dl_head 39 a hb h1 ?_
      rw [List.getElem?_eq_getElem (by omega), h]
    · exact p50s (dl_pos 38 a) (dl_len 39 a) (dl_lt 39 a) (by rw [hdv]; exact ha) h1
  rw [hdv] at key
  exact key

end Go.Proofs.Ytdfkcijholopoaa.Vm
