/- Layer frac: lists of fractions. -/
import Derived.Test.YtdfkcijholopoaaRa
import Derived.Test.YtdfkcijholopoaaFc
namespace Go.Proofs.Ytdfkcijholopoaa.Vm
open Go Go.RowKit
set_option maxRecDepth 10000
set_option linter.unusedSimpArgs false
set_option linter.unusedVariables false

def frp (x : Nat × Nat) : List Value := frc x.1 x.2
theorem frp_len (a : Nat × Nat) : (frp a).length = 3 := rfl
theorem frp_plain (a : Nat × Nat) : plainL (frp a) = true := rfl
theorem frp_one (a : Nat × Nat) : (frp a).all (·.oneCell') = true := rfl
theorem frs_plain (l : List (Nat × Nat)) : plainL (rws frp l) = true := rws_plain frp_plain l
def rta (l : List (Nat × Nat)) : Bool := l.all fun x => rt x.1 x.2
theorem rta_no {l : List (Nat × Nat)} {i : Nat} {a : Nat × Nat} (h : l[i]? = some a) (hr : rt a.1 a.2 = false) : rta l = false := by
  unfold rta
  rw [List.all_eq_false]
  exact ⟨a, List.mem_of_getElem? h, by simp [hr]⟩
theorem rta_step {l : List (Nat × Nat)} {i : Nat} {a : Nat × Nat} (h : l[i]? = some a) (hr : rt a.1 a.2 = true) (ht : rta (l.take i) = true) : rta (l.take (i + 1)) = true := by
  unfold rta at *
  rw [List.take_add_one, h]
  simp [hr, ht]
theorem rta_mem {l : List (Nat × Nat)} (h : rta l = true) {i : Nat} {a : Nat × Nat} (ha : l[i]? = some a) : rt a.1 a.2 = true := List.all_eq_true.1 h a (List.mem_of_getElem? ha)
theorem len_le {α : Type} {l : List α} {i : Nat} (h : decide ((i : Int) < (l.length : Int)) = true) : i < l.length := by rw [decide_eq_true_eq] at h; omega
theorem len_ge {α : Type} {l : List α} {i : Nat} (h : decide ((i : Int) < (l.length : Int)) = false) : l.length ≤ i := by rw [decide_eq_false_iff_not] at h; omega

theorem rt_good {n w : Nat} (hw : (!wt w) = false) (hb : decide (((n / 2 ^ 64 : Nat) : Int) ≥ 68719476736) = false) : rt n w = true := by
  have := wt_w (by simpa using hw)
  rw [decide_eq_false_iff_not] at hb
  rw [rt, decide_eq_true_eq]; omega

theorem p90 (l : List (Nat × Nat)) (c : Nat) (hl : l.length < 2 ^ 60) : RO 90 [.slice (some ⟨0, 0, none⟩) l.length c] [(0, rws frp l)] (.bool (rta l)) := by
  refine ro_of _ 1 Try.func90 rfl Try.ntmps90 (by kernel_rfl) (by simp) rfl rfl (by simp) (by simp [frs_plain]) ?_
  refine vc_seq ?_
  refine vc_go (by kernel_rfl) fun K hK => hK _ _ _ ?_
  clear hK K
  refine vc_seq ?_
  refine vc_seq ?_
  refine vc_go (by kernel_rfl) fun K hK => hK _ _ _ ?_
  clear hK K
  refine vc_block ?_
  refine vc_loopF (fun n s => ∃ i : Nat, n = l.length - i ∧ i ≤ l.length ∧ rta (l.take i) = true ∧ s = can [(0, .slice (some ⟨0, 0, none⟩) l.length c), (2, .bool false), (5, .slice (some ⟨0, 0, none⟩) l.length c), (6, .int .i64 (l.length : Int)), (7, .int .i64 ((i : Nat) : Int))] [(0, .cells (rws frp l) 0 false)] 1) l.length ?_ ?_
  · exact ⟨_, fg_focus [(0, .slice (some ⟨0, 0, none⟩) l.length c), (2, .bool false), (5, .slice (some ⟨0, 0, none⟩) l.length c), (6, .int .i64 (l.length : Int)), (7, .int .i64 ((0 : Nat) : Int))] [(0, .cells (rws frp l) 0 false)] 1 (by decide) ⟨rfl, rfl, rfl, rfl, rfl, trivial⟩ ⟨sb rfl, trivial⟩ rfl (bdH_one (by decide) (frs_plain l)), 0, rfl, Nat.zero_le _, rfl, rfl⟩
  · rintro n s ⟨i, hn, hi, hall, rfl⟩
    refine vc_seq ?_
    refine vc_go (by kernel_rfl) fun K hK => hK _ _ _ ?_
    clear hK K
    refine vc_seq ?_
    refine vc_cond rfl (fun c0 => ?_) (fun c0 => ?_)
    · -- cond 0 t8 true
      refine vc_skip ?_
      refine vc_seq ?_
      refine vc_block ?_
      refine vc_seq ?_
      have hlt := len_le c0
      obtain ⟨a, ha⟩ : ∃ a, l[i]? = some a := ⟨l[i], List.getElem?_eq_getElem hlt⟩
      refine vc_reg (by kernel_rfl) fun K hK => ?_
      refine run_op (vex_ixs (j := i) rfl rfl rfl hlt rfl rfl) rfl ?_
      refine run_rd (vex_ldr frp_len (j := 0) (i := i) (d := frp a) rfl (Nat.zero_add _) rfl (rws_win frp l) rfl ha (by decide) rfl) rfl ?_
      refine run_end (z := false) fun K' hK' => hK' _ _ _ (hK _ _ _ ?_)
      clear hK' K' hK K
      refine vc_seq ?_
      refine vc_reg (by kernel_rfl) fun K hK => ?_
      refine run_n (z := false) 2 (fun K' hK' => hK' _ _ _ ?_) (by decide)
      clear hK' K'
      refine run_call (p106 a.2) rfl rfl rfl rfl ?_
      refine run_n (z := false) 2 (fun K' hK' => hK' _ _ _ ?_) (by decide)
      clear hK' K'
      refine vgo_case 15 rfl (fun g0 => ?_) (fun g0 => ?_)
      · -- split 0 at 4,5 true
        refine run_end (z := false) fun K' hK' => hK' _ _ _ (hK _ _ _ ?_)
        clear hK' K' hK K
        refine vc_cond (t := true) rfl (fun _ => ?_) (fun h => by cases h)
        refine vc_seq ?_
        refine vc_go (by kernel_rfl) fun K hK => hK _ _ _ ?_
        clear hK K
        refine vc_ret ⟨.inr rfl, ?_⟩
        exact fin_bb (rta_no ha (rt_bad g0)).symm
      · -- split 0 at 4,5 false
        refine run_end (z := false) fun K' hK' => hK' _ _ _ (hK _ _ _ ?_)
        clear hK' K' hK K
        refine vc_cond rfl (fun hb => ?_) (fun hb => ?_)
        · -- cond 2 t20 true
          refine vc_seq ?_
          refine vc_go (by kernel_rfl) fun K hK => hK _ _ _ ?_
          clear hK K
          refine vc_ret ⟨.inr rfl, ?_⟩
          exact fin_bb (rta_no ha (rt_big hb)).symm
        · -- cond 2 t20 false
          refine vc_skip ?_
          refine vc_go (by kernel_rfl) fun K hK => hK _ _ _ ?_
          clear hK K
          exact ⟨_, fg_focus [(0, .slice (some ⟨0, 0, none⟩) l.length c), (2, .bool false), (5, .slice (some ⟨0, 0, none⟩) l.length c), (6, .int .i64 (l.length : Int)), (7, .int .i64 ((i + 1 : Nat) : Int))] [(0, .cells (rws frp l) 0 false)] 1 (by decide) ⟨rfl, rfl, rfl, rfl, ii (wrapI (by omega) (by omega)), trivial⟩ ⟨sb rfl, trivial⟩ rfl (bdH_one (by decide) (frs_plain l)), l.length - (i + 1), by omega, i + 1, rfl, hlt, rta_step ha (rt_good g0 hb) hall, rfl⟩
    · -- cond 0 t8 false
      refine vc_exit ?_
      refine vc_seq ?_
      refine vc_go (by kernel_rfl) fun K hK => hK _ _ _ ?_
      clear hK K
      refine vc_ret ⟨.inr rfl, ?_⟩
      have hge := len_ge c0
      rw [List.take_of_length_le hge] at hall
      exact fin_bb hall.symm
theorem p104 {a v b w : Nat} (hra : rt a v = true) (hrb : rt b w = true) : Pure 104 [fr a v, fr b w] (.bool (decide (cmpW (a * w) (b * v) > 0))) := by
  refine pure_of Try.func104 rfl Try.ntmps104 (by kernel_rfl) rfl (by simp) rfl ?_
  refine vc_seq ?_
  refine vc_go (by kernel_rfl) fun K hK => hK _ _ _ ?_
  clear hK K
  refine vc_seq ?_
  refine vc_reg (by kernel_rfl) fun K hK => ?_
  refine run_n (z := false) 2 (fun K' hK' => hK' _ _ _ ?_) (by decide)
  clear hK' K'
  refine run_call (p42y hra hrb) rfl rfl rfl rfl ?_
  refine run_end (z := false) fun K' hK' => hK' _ _ _ (hK _ _ _ ?_)
  clear hK' K' hK K
  exact vc_ret ⟨.inr rfl, rfl⟩
theorem p105 {a v b w : Nat} (hra : rt a v = true) (hrb : rt b w = true) : Pure 105 [fr a v, fr b w] (.bool (decide (cmpW (a * w) (b * v) < 0))) := by
  refine pure_of Try.func105 rfl Try.ntmps105 (by kernel_rfl) rfl (by simp) rfl ?_
  refine vc_seq ?_
  refine vc_go (by kernel_rfl) fun K hK => hK _ _ _ ?_
  clear hK K
  refine vc_seq ?_
  refine vc_reg (by kernel_rfl) fun K hK => ?_
  refine run_n (z := false) 2 (fun K' hK' => hK' _ _ _ ?_) (by decide)
  clear hK' K'
  refine run_call (p42y hra hrb) rfl rfl rfl rfl ?_
  refine run_end (z := false) fun K' hK' => hK' _ _ _ (hK _ _ _ ?_)
  clear hK' K' hK K
  exact vc_ret ⟨.inr rfl, rfl⟩
theorem p125 (a v : Nat) : Pure 125 [fr a v] (fr a v) := by
  refine pure_of Try.func125 rfl Try.ntmps125 (by kernel_rfl) rfl (by simp) rfl ?_
  refine vc_seq ?_
  refine vc_go (by kernel_rfl) fun K hK => hK _ _ _ ?_
  clear hK K
  refine vc_seq ?_
  refine vc_go (by kernel_rfl) fun K hK => hK _ _ _ ?_
  clear hK K
  exact vc_ret ⟨.inr rfl, rfl⟩
end Go.Proofs.Ytdfkcijholopoaa.Vm
