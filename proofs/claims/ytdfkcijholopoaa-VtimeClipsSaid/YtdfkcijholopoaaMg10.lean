/- What the proofs stand on, in one text: Tg, Th, Ti, Vm30. -/
import Derived.Test.YtdfkcijholopoaaMg9
namespace Go.Proofs.Ytdfkcijholopoaa.Vm
open Go Go.RowKit
set_option maxRecDepth 10000
set_option linter.unusedSimpArgs false
set_option linter.unusedVariables false


theorem sf_win1 {h : Nat → Option Blk} {f : Nat → Nat × Nat} {k : Nat} {v v1 : Value} {t t1 : TypeId} {own : Bool} (e : h (f k).1 = some (.cells [v1] t1 own)) (ho : (f k).2 = 0) (hv : v1 = renV f v) : SbF h f k (.cells [v] t false) := by
  refine ⟨_, e, fun i x hx => ?_⟩
  rw [ho, Nat.zero_add]
  match i, hx with
  | 0, hx => cases hx; rw [hv]; rfl
theorem hasC_two {h : Nat → Option Blk} {f : Nat → Nat × Nat} {c0 c1 : List Value} {t0 t1 : TypeId} {o0 o1 : Bool} (e0 : h (f 0).1 = some (.cells c0 t0 o0)) (p0 : plainL c0 = true) (z0 : (f 0).2 = 0) (e1 : h (f 1).1 = some (.cells c1 t1 o1)) (p1 : plainL c1 = true) (z1 : (f 1).2 = 0) : HasC h f [(0, c0), (1, c1)] := by
  intro x hx
  simp only [List.mem_cons, List.not_mem_nil, or_false] at hx
  rcases hx with rfl | rfl
  · exact ⟨_, _, _, e0, fun i v hv => by rw [z0, Nat.zero_add, renV_plain f v ((plainL_iff _).1 p0 v (List.mem_of_getElem? hv))]; exact hv⟩
  · exact ⟨_, _, _, e1, fun i v hv => by rw [z1, Nat.zero_add, renV_plain f v ((plainL_iff _).1 p1 v (List.mem_of_getElem? hv))]; exact hv⟩
def ptrv (m : Nat) : Value := .pointer (some ⟨m, 0, none⟩)


theorem p121a {l : List Rn} {r : Rn} {b c : Nat} {sp : List Value} (hl : l.length ≤ 900) (hc : l.length ≤ c) (hsp : plainL sp = true) (hsl : sp.length = (c - l.length) * 5) (hq : okq 0 l = true) (hr : okR r = false) : FC 121 [.pointer (some ⟨0, 0, none⟩), .pointer (some ⟨2, 0, none⟩), .pointer (some ⟨3, 0, none⟩)] 6 [(0, .cells [.slice (some ⟨1, 0, none⟩) l.length c] 55 true), (1, .cells (rws rc l ++ sp) 67 true), (2, .cells (rc r) 67 true), (3, .cells [.func (.func 96) #[] #[.pointer (some ⟨4, 0, none⟩), .pointer (some ⟨5, 0, none⟩)]] 140 false), (4, .cells (rc r) 67 false), (5, .cells [u64 b] 22 false)] (fun v u => v = .int .i64 2 ∧ u = [(0, .cells [.slice (some ⟨1, 0, none⟩) l.length c] 55 true), (1, .cells (rws rc l ++ sp) 67 true), (2, .cells (rc r) 67 true)]) := by
  refine fc_of [(0, .cells [.slice (some ⟨1, 0, none⟩) l.length c] 55 true), (1, .cells (rws rc l ++ sp) 67 true), (2, .cells (rc r) 67 true), (3, .cells [.func (.func 96) #[] #[.pointer (some ⟨4, 0, none⟩), .pointer (some ⟨5, 0, none⟩)]] 140 false), (4, .cells (rc r) 67 false), (5, .cells [u64 b] 22 false)] 6 Try.func121 rfl Try.ntmps121 (by kernel_rfl) (by simp) rfl (by simp [bdH, bdB, bdL_plain, plainL_append (rcs_plain l) hsp, rcb, bdL, bdV, bdA, u64]) (hall_of rfl) ?_
  refine vc_seq ?_
  refine vc_go (by kernel_rfl) fun K hK => hK _ _ _ ?_
  clear hK K
  refine vc_seq ?_
  refine vc_seq ?_
  refine vc_reg (by kernel_rfl) fun K hK => ?_
  refine run_n (z := false) 1 (fun K' hK' => hK' _ _ _ ?_) (by decide)
  clear hK' K'
  refine run_call (p75n hr) rfl rfl rfl rfl ?_
  refine run_end (z := false) fun K' hK' => hK' _ _ _ (hK _ _ _ ?_)
  clear hK' K' hK K
  refine vc_seq ?_
  refine vc_go (by kernel_rfl) fun K hK => hK _ _ _ ?_
  clear hK K
  refine vc_cond (t := true) rfl (fun _ => ?_) (fun h => by cases h)
  refine vc_seq ?_
  refine vc_go (by kernel_rfl) fun K hK => hK _ _ _ ?_
  clear hK K
  refine vc_ret ⟨.inr rfl, ?_⟩
  refine res_of 200 _ _ ⟨rfl, rfl⟩ (Nat.le_of_ble_eq_true rfl) rfl rfl ⟨sbu' rfl, sbu (plainL_append (rcs_plain l) hsp) rfl, sbu (rc_plain r) rfl, trivial⟩ (by simp [bdH, bdB, bdL_plain, plainL_append (rcs_plain l) hsp, rcb, bdL, bdV]) rfl (.inr (Nat.le_of_ble_eq_true rfl))

theorem p121b {l : List Rn} {r : Rn} {b c : Nat} {sp : List Value} (hl : l.length ≤ 900) (hc : l.length ≤ c) (hsp : plainL sp = true) (hsl : sp.length = (c - l.length) * 5) (hq : okq 0 l = true) (hr : okR r = true) (hat : atB l r.id = true) : FC 121 [.pointer (some ⟨0, 0, none⟩), .pointer (some ⟨2, 0, none⟩), .pointer (some ⟨3, 0, none⟩)] 6 [(0, .cells [.slice (some ⟨1, 0, none⟩) l.length c] 55 true), (1, .cells (rws rc l ++ sp) 67 true), (2, .cells (rc r) 67 true), (3, .cells [.func (.func 96) #[] #[.pointer (some ⟨4, 0, none⟩), .pointer (some ⟨5, 0, none⟩)]] 140 false), (4, .cells (rc r) 67 false), (5, .cells [u64 b] 22 false)] (fun v u => v = .int .i64 5 ∧ u = [(0, .cells [.slice (some ⟨1, 0, none⟩) l.length c] 55 true), (1, .cells (rws rc l ++ sp) 67 true), (2, .cells (rc r) 67 true)]) := by
  have h92 := p92 (l := l) c r.id (by omega)
  rw [hat] at h92
  refine fc_of [(0, .cells [.slice (some ⟨1, 0, none⟩) l.length c] 55 true), (1, .cells (rws rc l ++ sp) 67 true), (2, .cells (rc r) 67 true), (3, .cells [.func (.func 96) #[] #[.pointer (some ⟨4, 0, none⟩), .pointer (some ⟨5, 0, none⟩)]] 140 false), (4, .cells (rc r) 67 false), (5, .cells [u64 b] 22 false)] 6 Try.func121 rfl Try.ntmps121 (by kernel_rfl) (by simp) rfl (by simp [bdH, bdB, bdL_plain, plainL_append (rcs_plain l) hsp, rcb, bdL, bdV, bdA, u64]) (hall_of rfl) ?_
  refine vc_seq ?_
  refine vc_go (by kernel_rfl) fun K hK => hK _ _ _ ?_
  clear hK K
  refine vc_seq ?_
  refine vc_seq ?_
  refine vc_reg (by kernel_rfl) fun K hK => ?_
  refine run_n (z := false) 1 (fun K' hK' => hK' _ _ _ ?_) (by decide)
  clear hK' K'
  refine run_call (p75y hr) rfl rfl rfl rfl ?_
  refine run_end (z := false) fun K' hK' => hK' _ _ _ (hK _ _ _ ?_)
  clear hK' K' hK K
  refine vc_seq ?_
  refine vc_go (by kernel_rfl) fun K hK => hK _ _ _ ?_
  clear hK K
  refine vc_cond (t := false) rfl (fun h => by cases h) (fun _ => ?_)
  refine vc_skip ?_
  refine vc_seq ?_
  refine vc_regD [] (by kernel_rfl) (by kernel_rfl) fun K hK => ?_
  refine runD_n (z := false) 6 (fun K' hK' => hK' _ _ _ _ ?_) (by decide)
  clear hK' K'
  refine runD_ro (fun _ => (1, 0)) (h92) ?_ rfl rfl rfl rfl rfl ?_
  · intro x hx
    simp only [List.mem_singleton] at hx
    subst hx
    exact ⟨_, _, _, rfl, get_zero_app⟩
  refine runD_end (z := false) fun K' hK' => hK' _ _ _ _ (hK _ _ _ ?_)
  clear hK' K' hK K
  refine vc_seq ?_
  refine vc_seq ?_
  refine vc_go (by kernel_rfl) fun K hK => hK _ _ _ ?_
  clear hK K
  refine vc_cond (t := true) rfl (fun _ => ?_) (fun h => by cases h)
  refine vc_seq ?_
  refine vc_go (by kernel_rfl) fun K hK => hK _ _ _ ?_
  clear hK K
  refine vc_ret ⟨.inr rfl, ?_⟩
  refine res_of 200 _ _ ⟨rfl, rfl⟩ (Nat.le_of_ble_eq_true rfl) rfl rfl ⟨sbu' rfl, sbu (plainL_append (rcs_plain l) hsp) rfl, sbu (rc_plain r) rfl, trivial⟩ (by simp [bdH, bdB, bdL_plain, plainL_append (rcs_plain l) hsp, rcb, bdL, bdV]) rfl (.inr (Nat.le_of_ble_eq_true rfl))

theorem p121c {l : List Rn} {r : Rn} {b c : Nat} {sp : List Value} (hl : l.length ≤ 900) (hc : l.length ≤ c) (hsp : plainL sp = true) (hsl : sp.length = (c - l.length) * 5) (hq : okq 0 l = true) (hr : okR r = true) (hat : atB l r.id = false) (h96 : RC 96 [fr (accV (topS none l)).1 (accV (topS none l)).2, .bool (topS none l).isSome, .pointer (some ⟨0, 0, none⟩), .pointer (some ⟨1, 0, none⟩)] [(0, rc r), (1, [u64 b])] (.tuple #[fr 0 0, .int .i64 131])) : FC 121 [.pointer (some ⟨0, 0, none⟩), .pointer (some ⟨2, 0, none⟩), .pointer (some ⟨3, 0, none⟩)] 6 [(0, .cells [.slice (some ⟨1, 0, none⟩) l.length c] 55 true), (1, .cells (rws rc l ++ sp) 67 true), (2, .cells (rc r) 67 true), (3, .cells [.func (.func 96) #[] #[.pointer (some ⟨4, 0, none⟩), .pointer (some ⟨5, 0, none⟩)]] 140 false), (4, .cells (rc r) 67 false), (5, .cells [u64 b] 22 false)] (fun v u => v = .int .i64 131 ∧ u = [(0, .cells [.slice (some ⟨1, 0, none⟩) l.length c] 55 true), (1, .cells (rws rc l ++ sp) 67 true), (2, .cells (rc r) 67 true)]) := by
  have h92 := p92 (l := l) c r.id (by omega)
  rw [hat] at h92
  have h87 := p87 (l := l) c (by omega) hq
  refine fc_of [(0, .cells [.slice (some ⟨1, 0, none⟩) l.length c] 55 true), (1, .cells (rws rc l ++ sp) 67 true), (2, .cells (rc r) 67 true), (3, .cells [.func (.func 96) #[] #[.pointer (some ⟨4, 0, none⟩), .pointer (some ⟨5, 0, none⟩)]] 140 false), (4, .cells (rc r) 67 false), (5, .cells [u64 b] 22 false)] 6 Try.func121 rfl Try.ntmps121 (by kernel_rfl) (by simp) rfl (by simp [bdH, bdB, bdL_plain, plainL_append (rcs_plain l) hsp, rcb, bdL, bdV, bdA, u64]) (hall_of rfl) ?_
  refine vc_seq ?_
  refine vc_go (by kernel_rfl) fun K hK => hK _ _ _ ?_
  clear hK K
  refine vc_seq ?_
  refine vc_seq ?_
  refine vc_reg (by kernel_rfl) fun K hK => ?_
  refine run_n (z := false) 1 (fun K' hK' => hK' _ _ _ ?_) (by decide)
  clear hK' K'
  refine run_call (p75y hr) rfl rfl rfl rfl ?_
  refine run_end (z := false) fun K' hK' => hK' _ _ _ (hK _ _ _ ?_)
  clear hK' K' hK K
  refine vc_seq ?_
  refine vc_go (by kernel_rfl) fun K hK => hK _ _ _ ?_
  clear hK K
  refine vc_cond (t := false) rfl (fun h => by cases h) (fun _ => ?_)
  refine vc_skip ?_
  refine vc_seq ?_
  refine vc_regD [] (by kernel_rfl) (by kernel_rfl) fun K hK => ?_
  refine runD_n (z := false) 6 (fun K' hK' => hK' _ _ _ _ ?_) (by decide)
  clear hK' K'
  refine runD_ro (fun _ => (1, 0)) (h92) ?_ rfl rfl rfl rfl rfl ?_
  · intro x hx
    simp only [List.mem_singleton] at hx
    subst hx
    exact ⟨_, _, _, rfl, get_zero_app⟩
  refine runD_end (z := false) fun K' hK' => hK' _ _ _ _ (hK _ _ _ ?_)
  clear hK' K' hK K
  refine vc_seq ?_
  refine vc_seq ?_
  refine vc_go (by kernel_rfl) fun K hK => hK _ _ _ ?_
  clear hK K
  refine vc_cond (t := false) rfl (fun h => by cases h) (fun _ => ?_)
  refine vc_skip ?_
  refine vc_seq ?_
  refine vc_regD [(0, 4), (0, 11), (3, 11), (4, 11), (7, 11)] (by kernel_rfl) (by kernel_rfl) fun K hK => ?_
  refine runD_n (z := false) 4 (fun K' hK' => hK' _ _ _ _ ?_) (by decide)
  clear hK' K'
  refine runD_ro (fun _ => (1, 0)) (h87) ?_ rfl rfl rfl rfl rfl ?_
  · intro x hx
    simp only [List.mem_singleton] at hx
    subst hx
    exact ⟨_, _, _, rfl, get_zero_app⟩
  refine runD_n (z := false) 2 (fun K' hK' => hK' _ _ _ _ ?_) (by decide)
  clear hK' K'
  refine runD_rc (fun k => if k = 0 then (4, 0) else (5, 0)) h96 (hasC_two rfl (rc_plain r) rfl rfl rfl rfl) rfl rfl rfl rfl rfl ?_
  refine runD_end (z := false) fun K' hK' => hK' _ _ _ _ (hK _ _ _ ?_)
  clear hK' K' hK K
  refine vc_seq ?_
  refine vc_seq ?_
  refine vc_go (by kernel_rfl) fun K hK => hK _ _ _ ?_
  clear hK K
  refine vc_cond (t := true) rfl (fun _ => ?_) (fun h => by cases h)
  refine vc_seq ?_
  refine vc_go (by kernel_rfl) fun K hK => hK _ _ _ ?_
  clear hK K
  refine vc_ret ⟨.inr rfl, ?_⟩
  refine res_of 200 _ _ ⟨rfl, rfl⟩ (Nat.le_of_ble_eq_true rfl) rfl rfl ⟨sbu' rfl, sbu (plainL_append (rcs_plain l) hsp) rfl, sbu (rc_plain r) rfl, trivial⟩ (by simp [bdH, bdB, bdL_plain, plainL_append (rcs_plain l) hsp, rcb, bdL, bdV]) rfl (.inr (Nat.le_of_ble_eq_true rfl))

theorem p121k {l : List Rn} {r : Rn} {b c : Nat} {sp : List Value} (hl : l.length ≤ 900) (hc : l.length ≤ c) (hsp : plainL sp = true) (hsl : sp.length = (c - l.length) * 5) (hq : okq 0 l = true) {n2 : Nat} (hr : okR r = true) (hat : atB l r.id = false) (h96 : RC 96 [fr (accV (topS none l)).1 (accV (topS none l)).2, .bool (topS none l).isSome, .pointer (some ⟨0, 0, none⟩), .pointer (some ⟨1, 0, none⟩)] [(0, rc r), (1, [u64 b])] (.tuple #[fr n2 r.w, .int .i64 0])) : FC 121 [.pointer (some ⟨0, 0, none⟩), .pointer (some ⟨2, 0, none⟩), .pointer (some ⟨3, 0, none⟩)] 6 [(0, .cells [.slice (some ⟨1, 0, none⟩) l.length c] 55 true), (1, .cells (rws rc l ++ sp) 67 true), (2, .cells (rc r) 67 true), (3, .cells [.func (.func 96) #[] #[.pointer (some ⟨4, 0, none⟩), .pointer (some ⟨5, 0, none⟩)]] 140 false), (4, .cells (rc r) 67 false), (5, .cells [u64 b] 22 false)] (fun v u => (∃ c2 sp2, plainL sp2 = true ∧ v = .int .i64 0 ∧ u = [(0, .cells [.slice (some ⟨1, 0, none⟩) (l.length + 1) c2] 55 true), (1, .cells (rws rc (insQ l (atI l r.id) { r with n := n2 }) ++ sp2) 67 true), (2, .cells (rc { r with n := n2 }) 67 true)]) ∨ (∃ c2 sp2, plainL sp2 = true ∧ v = .int .i64 0 ∧ u = [(0, .cells [.slice (some ⟨6, 0, none⟩) (l.length + 1) c2] 55 true), (1, .cells (rws rc l ++ sp) 67 true), (2, .cells (rc { r with n := n2 }) 67 true), (6, .cells (rws rc (insQ l (atI l r.id) { r with n := n2 }) ++ sp2) 67 true)])) := by
  have h92 := p92 (l := l) c r.id (by omega)
  rw [hat] at h92
  have h87 := p87 (l := l) c (by omega) hq
  have hi : atI l r.id ≤ l.length := (bsr_spec _ _ _ _ (Nat.zero_le _) (Nat.le_refl _)).2.1
  refine fc_of [(0, .cells [.slice (some ⟨1, 0, none⟩) l.length c] 55 true), (1, .cells (rws rc l ++ sp) 67 true), (2, .cells (rc r) 67 true), (3, .cells [.func (.func 96) #[] #[.pointer (some ⟨4, 0, none⟩), .pointer (some ⟨5, 0, none⟩)]] 140 false), (4, .cells (rc r) 67 false), (5, .cells [u64 b] 22 false)] 6 Try.func121 rfl Try.ntmps121 (by kernel_rfl) (by simp) rfl (by simp [bdH, bdB, bdL_plain, plainL_append (rcs_plain l) hsp, rcb, bdL, bdV, bdA, u64]) (hall_of rfl) ?_
  refine vc_seq ?_
  refine vc_go (by kernel_rfl) fun K hK => hK _ _ _ ?_
  clear hK K
  refine vc_seq ?_
  refine vc_seq ?_
  refine vc_reg (by kernel_rfl) fun K hK => ?_
  refine run_n (z := false) 1 (fun K' hK' => hK' _ _ _ ?_) (by decide)
  clear hK' K'
  refine run_call (p75y hr) rfl rfl rfl rfl ?_
  refine run_end (z := false) fun K' hK' => hK' _ _ _ (hK _ _ _ ?_)
  clear hK' K' hK K
  refine vc_seq ?_
  refine vc_go (by kernel_rfl) fun K hK => hK _ _ _ ?_
  clear hK K
  refine vc_cond (t := false) rfl (fun h => by cases h) (fun _ => ?_)
  refine vc_skip ?_
  refine vc_seq ?_
  refine vc_regD [] (by kernel_rfl) (by kernel_rfl) fun K hK => ?_
  refine runD_n (z := false) 6 (fun K' hK' => hK' _ _ _ _ ?_) (by decide)
  clear hK' K'
  refine runD_ro (fun _ => (1, 0)) (h92) ?_ rfl rfl rfl rfl rfl ?_
  · intro x hx
    simp only [List.mem_singleton] at hx
    subst hx
    exact ⟨_, _, _, rfl, get_zero_app⟩
  refine runD_end (z := false) fun K' hK' => hK' _ _ _ _ (hK _ _ _ ?_)
  clear hK' K' hK K
  refine vc_seq ?_
  refine vc_seq ?_
  refine vc_go (by kernel_rfl) fun K hK => hK _ _ _ ?_
  clear hK K
  refine vc_cond (t := false) rfl (fun h => by cases h) (fun _ => ?_)
  refine vc_skip ?_
  refine vc_seq ?_
  refine vc_regD [(0, 4), (0, 11), (3, 11), (4, 11), (7, 11)] (by kernel_rfl) (by kernel_rfl) fun K hK => ?_
  refine runD_n (z := false) 4 (fun K' hK' => hK' _ _ _ _ ?_) (by decide)
  clear hK' K'
  refine runD_ro (fun _ => (1, 0)) (h87) ?_ rfl rfl rfl rfl rfl ?_
  · intro x hx
    simp only [List.mem_singleton] at hx
    subst hx
    exact ⟨_, _, _, rfl, get_zero_app⟩
  refine runD_n (z := false) 2 (fun K' hK' => hK' _ _ _ _ ?_) (by decide)
  clear hK' K'
  refine runD_rc (fun k => if k = 0 then (4, 0) else (5, 0)) h96 (hasC_two rfl (rc_plain r) rfl rfl rfl rfl) rfl rfl rfl rfl rfl ?_
  refine runD_end (z := false) fun K' hK' => hK' _ _ _ _ (hK _ _ _ ?_)
  clear hK' K' hK K
  refine vc_seq ?_
  refine vc_seq ?_
  refine vc_go (by kernel_rfl) fun K hK => hK _ _ _ ?_
  clear hK K
  refine vc_cond (t := false) rfl (fun h => by cases h) (fun _ => ?_)
  refine vc_skip ?_
  refine vc_seq ?_
  refine vc_go (by kernel_rfl) fun K hK => hK _ _ _ ?_
  clear hK K
  refine vc_seq ?_
  refine vc_regD [(4, 7)] (by kernel_rfl) (by kernel_rfl) fun K hK => ?_
  refine runD_n (z := false) 8 (fun K' hK' => hK' _ _ _ _ ?_) (by decide)
  clear hK' K'
  refine runD_fc (fun k => if k = 0 then (1, 0) else (25, 0)) (p122 (r := { r with n := n2 }) (by omega) hc hsp hsl hi) (hasF ⟨sf_ownp (plainL_append (rcs_plain l) hsp) rfl rfl, sf_ownp (rc_plain _) rfl rfl, trivial⟩ rfl) rfl rfl rfl rfl ⟨_, _, .inl ⟨0, [], rfl, rfl, rfl⟩⟩ (by rintro _ _ (⟨_, _, _, rfl, rfl⟩ | ⟨_, _, _, rfl, rfl⟩) <;> rfl) ?_
  rintro _ _ (⟨c2, sp2, hp2, rfl, rfl⟩ | ⟨c2, sp2, hp2, rfl, rfl⟩)
  · rw [renU_c (renB_p (plainL_append (rcs_plain _) hp2)) (renU_c (renB_p (rc_plain _)) renU_nil)]
    refine runD_end (z := false) fun K' hK' => hK' _ _ _ _ (hK _ _ _ ?_)
    clear hK' K' hK K
    refine vc_seq ?_
    refine vc_go (by kernel_rfl) fun K hK => hK _ _ _ ?_
    clear hK K
    refine vc_ret ⟨.inr rfl, ?_⟩
    refine res_of 200 _ _ (.inl ⟨c2, sp2, hp2, rfl, rfl⟩) (Nat.le_of_ble_eq_true rfl) rfl rfl ⟨sbu' rfl, sbu (plainL_append (rcs_plain _) hp2) rfl, sbu (rc_plain _) rfl, trivial⟩ (by simp [bdH, bdB, bdL_plain, plainL_append (rcs_plain _) hp2, rcb, bdL, bdV]) rfl (.inr (Nat.le_of_ble_eq_true rfl))
  · rw [renU_c (renB_p (plainL_append (rcs_plain _) hsp)) (renU_c (renB_p (rc_plain _)) (renU_c (renB_p (plainL_append (rcs_plain _) hp2)) renU_nil))]
    refine runD_end (z := false) fun K' hK' => hK' _ _ _ _ (hK _ _ _ ?_)
    clear hK' K' hK K
    refine vc_seq ?_
    refine vc_go (by kernel_rfl) fun K hK => hK _ _ _ ?_
    clear hK K
    refine vc_ret ⟨.inr rfl, ?_⟩
    refine res_of 26 _ _ (.inr ⟨c2, sp2, hp2, rfl, rfl⟩) (Nat.le_of_ble_eq_true rfl) rfl rfl ⟨sbu' rfl, sbu (plainL_append (rcs_plain _) hsp) rfl, sbu (rc_plain _) rfl, sbu (plainL_append (rcs_plain _) hp2) rfl, trivial⟩ (by simp [bdH, bdB, bdL_plain, plainL_append (rcs_plain _) hp2, plainL_append (rcs_plain _) hsp, rcb, bdL, bdV]) rfl (.inl (by simp))

theorem p88e {l : List Rn} {r : Rn} {b c : Nat} (hl : l.length ≤ 900) {e : Int} (he : e ≠ 0) (hq : okq 0 l = true) (h121 : ∀ c9, l.length ≤ c9 → FC 121 [.pointer (some ⟨0, 0, none⟩), .pointer (some ⟨2, 0, none⟩), .pointer (some ⟨3, 0, none⟩)] 6 [(0, .cells [.slice (some ⟨1, 0, none⟩) l.length c9] 55 true), (1, .cells (rws rc l ++ (zrow (c9 - l.length) z5)) 67 true), (2, .cells (rc r) 67 true), (3, .cells [.func (.func 96) #[] #[.pointer (some ⟨4, 0, none⟩), .pointer (some ⟨5, 0, none⟩)]] 140 false), (4, .cells (rc r) 67 false), (5, .cells [u64 b] 22 false)] (fun v u => v = .int .i64 e ∧ u = [(0, .cells [.slice (some ⟨1, 0, none⟩) l.length c9] 55 true), (1, .cells (rws rc l ++ (zrow (c9 - l.length) z5)) 67 true), (2, .cells (rc r) 67 true)])) : FC 88 [qv 0 l.length c, .func (.func 121) #[] #[.pointer (some ⟨1, 0, none⟩), .pointer (some ⟨2, 0, none⟩)]] 5 [(0, .cells (rws rc l) 0 false), (1, .cells (rc r) 67 true), (2, .cells [.func (.func 96) #[] #[.pointer (some ⟨3, 0, none⟩), .pointer (some ⟨4, 0, none⟩)]] 140 false), (3, .cells (rc r) 67 false), (4, .cells [u64 b] 22 false)] (fun v u => v = .tuple #[qnil, .int .i64 e] ∧ u = [(1, .cells (rc r) 67 true)]) := by
  have h47 := p47 l c (by omega)
  rw [chk1_yes hq] at h47
  refine fc_of [(0, .cells (rws rc l) 0 false), (1, .cells (rc r) 67 true), (2, .cells [.func (.func 96) #[] #[.pointer (some ⟨3, 0, none⟩), .pointer (some ⟨4, 0, none⟩)]] 140 false), (3, .cells (rc r) 67 false), (4, .cells [u64 b] 22 false)] 5 Try.func88 rfl Try.ntmps88 (by kernel_rfl) (by simp) rfl (by simp [bdH, bdB, bdL_plain, rcs_plain, rcb, bdL, bdV, bdA, u64]) (hall_of rfl) ?_
  refine vc_seq ?_
  refine vc_go (by kernel_rfl) fun K hK => hK _ _ _ ?_
  clear hK K
  refine vc_seq ?_
  refine vc_seq ?_
  refine vc_reg (by kernel_rfl) fun K hK => ?_
  refine run_n (z := false) 1 (fun K' hK' => hK' _ _ _ ?_) (by decide)
  clear hK' K'
  refine run_ro (fun _ => (0, 0)) (h47) ?_ rfl rfl rfl rfl ?_
  · intro x hx
    simp only [List.mem_singleton] at hx
    subst hx
    exact ⟨_, _, _, rfl, fun i v hv => by rw [Nat.zero_add]; exact hv⟩
  refine run_end (z := false) fun K' hK' => hK' _ _ _ (hK _ _ _ ?_)
  clear hK' K' hK K
  refine vc_seq ?_
  refine vc_go (by kernel_rfl) fun K hK => hK _ _ _ ?_
  clear hK K
  refine vc_cond (t := false) rfl (fun h => by cases h) (fun _ => ?_)
  refine vc_skip ?_
  refine vc_seq ?_
  refine vc_reg (by kernel_rfl) fun K hK => ?_
  refine run_n (z := false) 2 (fun K' hK' => hK' _ _ _ ?_) (by decide)
  clear hK' K'
  refine run_fc (fun k => (k, 0)) (p118 c (by omega)) (hasF ⟨sf_winp (rcs_plain l) rfl get_zero, trivial⟩ rfl) rfl rfl rfl rfl ⟨_, _, l.length, Nat.le_refl _, rfl, rfl⟩ ?_
  rintro _ _ ⟨c2, hc2, rfl, rfl⟩
  rw [renU_c (renB_p (spare_plain l _)) renU_nil]
  refine run_end (z := false) fun K' hK' => hK' _ _ _ (hK _ _ _ ?_)
  clear hK' K' hK K
  refine vc_seq ?_
  refine vc_seq ?_
  refine vc_reg (by kernel_rfl) fun K hK => ?_
  refine run_n (z := false) 1 (fun K' hK' => hK' _ _ _ ?_) (by decide)
  clear hK' K'
  refine run_fc (fun k => if k = 0 then (11, 0) else if k = 1 then (9, 0) else (k - 1, 0)) (h121 c2 hc2) (hasF ⟨sf_own rfl rfl, sf_ownp (spare_plain l _) rfl rfl, sf_ownp (rc_plain r) rfl rfl, sf_win1 rfl rfl rfl, sf_winp (rc_plain r) rfl get_zero, sf_winp rfl rfl get_zero, trivial⟩ rfl) rfl rfl rfl rfl ⟨_, _, rfl, rfl⟩ ?_
  rintro _ _ ⟨rfl, rfl⟩
  rw [renU_c rfl (renU_c (renB_p (spare_plain l _)) (renU_c (renB_p (rc_plain r)) renU_nil))]
  refine run_end (z := false) fun K' hK' => hK' _ _ _ (hK _ _ _ ?_)
  clear hK' K' hK K
  refine vc_seq ?_
  refine vc_go (by kernel_rfl) fun K hK => hK _ _ _ ?_
  clear hK K
  refine vc_cond (t := true) (bb (bne_iff_ne.2 he)) (fun _ => ?_) (fun h => by cases h)
  refine vc_seq ?_
  refine vc_go (by kernel_rfl) fun K hK => hK _ _ _ ?_
  clear hK K
  refine vc_ret ⟨.inr rfl, ?_⟩
  exact res_of 200 _ _ ⟨rfl, rfl⟩ (Nat.le_of_ble_eq_true rfl) rfl rfl ⟨sbu (rc_plain r) rfl, trivial⟩ (bdH_c (by decide) (rc_plain r) rfl) rfl (.inr (Nat.le_of_ble_eq_true rfl))

theorem p88c {l : List Rn} {r : Rn} {b c : Nat} (hl : l.length ≤ 900) (hq : okq 0 l = false) : FC 88 [qv 0 l.length c, .func (.func 121) #[] #[.pointer (some ⟨1, 0, none⟩), .pointer (some ⟨2, 0, none⟩)]] 5 [(0, .cells (rws rc l) 0 false), (1, .cells (rc r) 67 true), (2, .cells [.func (.func 96) #[] #[.pointer (some ⟨3, 0, none⟩), .pointer (some ⟨4, 0, none⟩)]] 140 false), (3, .cells (rc r) 67 false), (4, .cells [u64 b] 22 false)] (fun v u => v = .tuple #[qnil, .int .i64 200] ∧ u = [(1, .cells (rc r) 67 true)]) := by
  have h47 := p47 l c (by omega)
  rw [chk1_no hq] at h47
  refine fc_of [(0, .cells (rws rc l) 0 false), (1, .cells (rc r) 67 true), (2, .cells [.func (.func 96) #[] #[.pointer (some ⟨3, 0, none⟩), .pointer (some ⟨4, 0, none⟩)]] 140 false), (3, .cells (rc r) 67 false), (4, .cells [u64 b] 22 false)] 5 Try.func88 rfl Try.ntmps88 (by kernel_rfl) (by simp) rfl (by simp [bdH, bdB, bdL_plain, rcs_plain, rcb, bdL, bdV, bdA, u64]) (hall_of rfl) ?_
  refine vc_seq ?_
  refine vc_go (by kernel_rfl) fun K hK => hK _ _ _ ?_
  clear hK K
  refine vc_seq ?_
  refine vc_seq ?_
  refine vc_reg (by kernel_rfl) fun K hK => ?_
  refine run_n (z := false) 1 (fun K' hK' => hK' _ _ _ ?_) (by decide)
  clear hK' K'
  refine run_ro (fun _ => (0, 0)) (h47) ?_ rfl rfl rfl rfl ?_
  · intro x hx
    simp only [List.mem_singleton] at hx
    subst hx
    exact ⟨_, _, _, rfl, fun i v hv => by rw [Nat.zero_add]; exact hv⟩
  refine run_end (z := false) fun K' hK' => hK' _ _ _ (hK _ _ _ ?_)
  clear hK' K' hK K
  refine vc_seq ?_
  refine vc_go (by kernel_rfl) fun K hK => hK _ _ _ ?_
  clear hK K
  refine vc_cond (t := true) rfl (fun _ => ?_) (fun h => by cases h)
  refine vc_seq ?_
  refine vc_go (by kernel_rfl) fun K hK => hK _ _ _ ?_
  clear hK K
  refine vc_ret ⟨.inr rfl, ?_⟩
  exact res_of 200 _ _ ⟨rfl, rfl⟩ (Nat.le_of_ble_eq_true rfl) rfl rfl ⟨sbu (rc_plain r) rfl, trivial⟩ (bdH_c (by decide) (rc_plain r) rfl) rfl (.inr (Nat.le_of_ble_eq_true rfl))

theorem p88k {l : List Rn} {r : Rn} {b c : Nat} (hl : l.length ≤ 900) {r2 : Rn} {l2 : List Rn} (hq : okq 0 l = true) (h121 : ∀ c9, l.length ≤ c9 → FC 121 [.pointer (some ⟨0, 0, none⟩), .pointer (some ⟨2, 0, none⟩), .pointer (some ⟨3, 0, none⟩)] 6 [(0, .cells [.slice (some ⟨1, 0, none⟩) l.length c9] 55 true), (1, .cells (rws rc l ++ (zrow (c9 - l.length) z5)) 67 true), (2, .cells (rc r) 67 true), (3, .cells [.func (.func 96) #[] #[.pointer (some ⟨4, 0, none⟩), .pointer (some ⟨5, 0, none⟩)]] 140 false), (4, .cells (rc r) 67 false), (5, .cells [u64 b] 22 false)] (fun v u => (∃ c2 sp2, plainL sp2 = true ∧ v = .int .i64 0 ∧ u = [(0, .cells [.slice (some ⟨1, 0, none⟩) (l.length + 1) c2] 55 true), (1, .cells (rws rc l2 ++ sp2) 67 true), (2, .cells (rc r2) 67 true)]) ∨ (∃ c2 sp2, plainL sp2 = true ∧ v = .int .i64 0 ∧ u = [(0, .cells [.slice (some ⟨6, 0, none⟩) (l.length + 1) c2] 55 true), (1, .cells (rws rc l ++ (zrow (c9 - l.length) z5)) 67 true), (2, .cells (rc r2) 67 true), (6, .cells (rws rc l2 ++ sp2) 67 true)]))) : FC 88 [qv 0 l.length c, .func (.func 121) #[] #[.pointer (some ⟨1, 0, none⟩), .pointer (some ⟨2, 0, none⟩)]] 5 [(0, .cells (rws rc l) 0 false), (1, .cells (rc r) 67 true), (2, .cells [.func (.func 96) #[] #[.pointer (some ⟨3, 0, none⟩), .pointer (some ⟨4, 0, none⟩)]] 140 false), (3, .cells (rc r) 67 false), (4, .cells [u64 b] 22 false)] (fun v u => ∃ c2 sp2, plainL sp2 = true ∧ v = .tuple #[qv 5 (l.length + 1) c2, .int .i64 0] ∧ u = [(1, .cells (rc r2) 67 true), (5, .cells (rws rc l2 ++ sp2) 67 true)]) := by
  have h47 := p47 l c (by omega)
  rw [chk1_yes hq] at h47
  refine fc_of [(0, .cells (rws rc l) 0 false), (1, .cells (rc r) 67 true), (2, .cells [.func (.func 96) #[] #[.pointer (some ⟨3, 0, none⟩), .pointer (some ⟨4, 0, none⟩)]] 140 false), (3, .cells (rc r) 67 false), (4, .cells [u64 b] 22 false)] 5 Try.func88 rfl Try.ntmps88 (by kernel_rfl) (by simp) rfl (by simp [bdH, bdB, bdL_plain, rcs_plain, rcb, bdL, bdV, bdA, u64]) (hall_of rfl) ?_
  refine vc_seq ?_
  refine vc_go (by kernel_rfl) fun K hK => hK _ _ _ ?_
  clear hK K
  refine vc_seq ?_
  refine vc_seq ?_
  refine vc_reg (by kernel_rfl) fun K hK => ?_
  refine run_n (z := false) 1 (fun K' hK' => hK' _ _ _ ?_) (by decide)
  clear hK' K'
  refine run_ro (fun _ => (0, 0)) (h47) ?_ rfl rfl rfl rfl ?_
  · intro x hx
    simp only [List.mem_singleton] at hx
    subst hx
    exact ⟨_, _, _, rfl, fun i v hv => by rw [Nat.zero_add]; exact hv⟩
  refine run_end (z := false) fun K' hK' => hK' _ _ _ (hK _ _ _ ?_)
  clear hK' K' hK K
  refine vc_seq ?_
  refine vc_go (by kernel_rfl) fun K hK => hK _ _ _ ?_
  clear hK K
  refine vc_cond (t := false) rfl (fun h => by cases h) (fun _ => ?_)
  refine vc_skip ?_
  refine vc_seq ?_
  refine vc_reg (by kernel_rfl) fun K hK => ?_
  refine run_n (z := false) 2 (fun K' hK' => hK' _ _ _ ?_) (by decide)
  clear hK' K'
  refine run_fc (fun k => (k, 0)) (p118 c (by omega)) (hasF ⟨sf_winp (rcs_plain l) rfl get_zero, trivial⟩ rfl) rfl rfl rfl rfl ⟨_, _, l.length, Nat.le_refl _, rfl, rfl⟩ ?_
  rintro _ _ ⟨c2, hc2, rfl, rfl⟩
  rw [renU_c (renB_p (spare_plain l _)) renU_nil]
  refine run_end (z := false) fun K' hK' => hK' _ _ _ (hK _ _ _ ?_)
  clear hK' K' hK K
  refine vc_seq ?_
  refine vc_seq ?_
  refine vc_reg (by kernel_rfl) fun K hK => ?_
  refine run_n (z := false) 1 (fun K' hK' => hK' _ _ _ ?_) (by decide)
  clear hK' K'
  refine run_fc (fun k => if k = 0 then (11, 0) else if k = 1 then (9, 0) else (k - 1, 0)) (h121 c2 hc2) (hasF ⟨sf_own rfl rfl, sf_ownp (spare_plain l _) rfl rfl, sf_ownp (rc_plain r) rfl rfl, sf_win1 rfl rfl rfl, sf_winp (rc_plain r) rfl get_zero, sf_winp rfl rfl get_zero, trivial⟩ rfl) rfl rfl rfl rfl ⟨_, _, .inl ⟨0, [], rfl, rfl, rfl⟩⟩ ?_
  rintro _ _ (⟨c3, sp2, hp2, rfl, rfl⟩ | ⟨c3, sp2, hp2, rfl, rfl⟩)
  · rw [renU_c rfl (renU_c (renB_p (plainL_append (rcs_plain _) hp2)) (renU_c (renB_p (rc_plain _)) renU_nil))]
    refine run_end (z := false) fun K' hK' => hK' _ _ _ (hK _ _ _ ?_)
    clear hK' K' hK K
    refine vc_seq ?_
    refine vc_go (by kernel_rfl) fun K hK => hK _ _ _ ?_
    clear hK K
    refine vc_cond (t := false) rfl (fun h => by cases h) (fun _ => ?_)
    refine vc_skip ?_
    refine vc_seq ?_
    refine vc_go (by kernel_rfl) fun K hK => hK _ _ _ ?_
    clear hK K
    refine vc_ret ⟨.inr rfl, ?_⟩
    exact res_of 9 _ _ ⟨c3, sp2, hp2, rfl, rfl⟩ (Nat.le_of_ble_eq_true rfl) rfl rfl ⟨sbu (rc_plain _) rfl, sbu (plainL_append (rcs_plain _) hp2) rfl, trivial⟩ (bdH_c (by decide) (rc_plain _) (bdH_c (by decide) (plainL_append (rcs_plain _) hp2) rfl)) rfl (.inl (by simp))
  · rw [renU_c rfl (renU_c (renB_p (spare_plain l _)) (renU_c (renB_p (rc_plain _)) (renU_c (renB_p (plainL_append (rcs_plain _) hp2)) renU_nil)))]
    refine run_end (z := false) fun K' hK' => hK' _ _ _ (hK _ _ _ ?_)
    clear hK' K' hK K
    refine vc_seq ?_
    refine vc_go (by kernel_rfl) fun K hK => hK _ _ _ ?_
    clear hK K
    refine vc_cond (t := false) rfl (fun h => by cases h) (fun _ => ?_)
    refine vc_skip ?_
    refine vc_seq ?_
    refine vc_go (by kernel_rfl) fun K hK => hK _ _ _ ?_
    clear hK K
    refine vc_ret ⟨.inr rfl, ?_⟩
    exact res_of 13 _ _ ⟨c3, sp2, hp2, rfl, rfl⟩ (Nat.le_of_ble_eq_true rfl) rfl rfl ⟨sbu (rc_plain _) rfl, sbu (plainL_append (rcs_plain _) hp2) rfl, trivial⟩ (bdH_c (by decide) (rc_plain _) (bdH_c (by decide) (plainL_append (rcs_plain _) hp2) rfl)) rfl (.inl (by simp))

theorem p95e {l : List Rn} {r : Rn} {b c : Nat} {e : Int} (h88 : FC 88 [qv 0 l.length c, .func (.func 121) #[] #[.pointer (some ⟨1, 0, none⟩), .pointer (some ⟨2, 0, none⟩)]] 5 [(0, .cells (rws rc l) 0 false), (1, .cells (rc r) 67 true), (2, .cells [.func (.func 96) #[] #[.pointer (some ⟨3, 0, none⟩), .pointer (some ⟨4, 0, none⟩)]] 140 false), (3, .cells (rc r) 67 false), (4, .cells [u64 b] 22 false)] (fun v u => v = .tuple #[qnil, .int .i64 e] ∧ u = [(1, .cells (rc r) 67 true)])) : FC 95 [qv 0 l.length c, rv r, .func (.func 96) #[] #[.pointer (some ⟨1, 0, none⟩), .pointer (some ⟨2, 0, none⟩)]] 3 [(0, .cells (rws rc l) 0 false), (1, .cells (rc r) 67 false), (2, .cells [u64 b] 22 false)] (fun v u => v = .tuple #[qnil, .int .i64 e] ∧ u = []) := by
  refine fc_of [(0, .cells (rws rc l) 0 false), (1, .cells (rc r) 67 false), (2, .cells [u64 b] 22 false)] 3 Try.func95 rfl Try.ntmps95 (by kernel_rfl) (by simp) rfl (by simp [bdH, bdB, bdL_plain, rcs_plain, rcb, bdL, bdV, u64]) (hall_of rfl) ?_
  refine vc_seq ?_
  refine vc_go (by kernel_rfl) fun K hK => hK _ _ _ ?_
  clear hK K
  refine vc_seq ?_
  refine vc_reg (by kernel_rfl) fun K hK => ?_
  refine run_n (z := false) 2 (fun K' hK' => hK' _ _ _ ?_) (by decide)
  clear hK' K'
  refine run_fc (fun k => if k = 0 then (0, 0) else if k = 1 then (4, 0) else if k = 2 then (5, 0) else (k - 2, 0)) h88 (hasF ⟨sf_winp (rcs_plain l) rfl get_zero, sf_ownp (rc_plain r) rfl rfl, sf_win1 rfl rfl rfl, sf_winp (rc_plain r) rfl get_zero, sf_winp rfl rfl get_zero, trivial⟩ rfl) rfl rfl rfl rfl ⟨_, _, rfl, rfl⟩ ?_
  rintro _ _ ⟨rfl, rfl⟩
  rw [renU_c (renB_p (rc_plain r)) renU_nil]
  refine run_end (z := false) fun K' hK' => hK' _ _ _ (hK _ _ _ ?_)
  clear hK' K' hK K
  refine vc_ret ⟨.inr rfl, ?_⟩
  exact res_plain ⟨rfl, rfl⟩ rfl rfl rfl

theorem p95k {l l2 : List Rn} {r r2 : Rn} {b c : Nat} (h88 : FC 88 [qv 0 l.length c, .func (.func 121) #[] #[.pointer (some ⟨1, 0, none⟩), .pointer (some ⟨2, 0, none⟩)]] 5 [(0, .cells (rws rc l) 0 false), (1, .cells (rc r) 67 true), (2, .cells [.func (.func 96) #[] #[.pointer (some ⟨3, 0, none⟩), .pointer (some ⟨4, 0, none⟩)]] 140 false), (3, .cells (rc r) 67 false), (4, .cells [u64 b] 22 false)] (fun v u => ∃ c2 sp2, plainL sp2 = true ∧ v = .tuple #[qv 5 (l.length + 1) c2, .int .i64 0] ∧ u = [(1, .cells (rc r2) 67 true), (5, .cells (rws rc l2 ++ sp2) 67 true)])) : FC 95 [qv 0 l.length c, rv r, .func (.func 96) #[] #[.pointer (some ⟨1, 0, none⟩), .pointer (some ⟨2, 0, none⟩)]] 3 [(0, .cells (rws rc l) 0 false), (1, .cells (rc r) 67 false), (2, .cells [u64 b] 22 false)] (fun v u => ∃ c2 sp2, plainL sp2 = true ∧ v = .tuple #[qv 3 (l.length + 1) c2, .int .i64 0] ∧ u = [(3, .cells (rws rc l2 ++ sp2) 67 true)]) := by
  refine fc_of [(0, .cells (rws rc l) 0 false), (1, .cells (rc r) 67 false), (2, .cells [u64 b] 22 false)] 3 Try.func95 rfl Try.ntmps95 (by kernel_rfl) (by simp) rfl (by simp [bdH, bdB, bdL_plain, rcs_plain, rcb, bdL, bdV, u64]) (hall_of rfl) ?_
  refine vc_seq ?_
  refine vc_go (by kernel_rfl) fun K hK => hK _ _ _ ?_
  clear hK K
  refine vc_seq ?_
  refine vc_reg (by kernel_rfl) fun K hK => ?_
  refine run_n (z := false) 2 (fun K' hK' => hK' _ _ _ ?_) (by decide)
  clear hK' K'
  refine run_fc (fun k => if k = 0 then (0, 0) else if k = 1 then (4, 0) else if k = 2 then (5, 0) else (k - 2, 0)) h88 (hasF ⟨sf_winp (rcs_plain l) rfl get_zero, sf_ownp (rc_plain r) rfl rfl, sf_win1 rfl rfl rfl, sf_winp (rc_plain r) rfl get_zero, sf_winp rfl rfl get_zero, trivial⟩ rfl) rfl rfl rfl rfl ⟨_, _, 0, [], rfl, rfl, rfl⟩ ?_
  rintro _ _ ⟨c3, sp2, hp2, rfl, rfl⟩
  rw [renU_c (renB_p (rc_plain r2)) (renU_c (renB_p (plainL_append (rcs_plain _) hp2)) renU_nil)]
  refine run_end (z := false) fun K' hK' => hK' _ _ _ (hK _ _ _ ?_)
  clear hK' K' hK K
  refine vc_ret ⟨.inr rfl, ?_⟩
  exact res_of 9 _ _ ⟨c3, sp2, hp2, rfl, rfl⟩ (Nat.le_of_ble_eq_true rfl) rfl rfl ⟨sbu (plainL_append (rcs_plain _) hp2) rfl, trivial⟩ (bdH_c (by decide) (plainL_append (rcs_plain _) hp2) rfl) rfl (.inl (by simp))

theorem p46e {l : List Rn} {r : Rn} {b c : Nat} {e : Int} (hb : b ≤ 10000000) (h95 : FC 95 [qv 0 l.length c, rv r, .func (.func 96) #[] #[.pointer (some ⟨1, 0, none⟩), .pointer (some ⟨2, 0, none⟩)]] 3 [(0, .cells (rws rc l) 0 false), (1, .cells (rc r) 67 false), (2, .cells [u64 b] 22 false)] (fun v u => v = .tuple #[qnil, .int .i64 e] ∧ u = [])) : FC 46 [qv 0 l.length c, rv r, u64 b] 1 [(0, .cells (rws rc l) 0 false)] (fun v u => v = .tuple #[qnil, .int .i64 e] ∧ u = []) := by
  refine fc_of [(0, .cells (rws rc l) 0 false)] 1 Try.func46 rfl Try.ntmps46 (by kernel_rfl) (by simp) rfl (bdH_c (by decide) (rcs_plain l) rfl) (hall_of rfl) ?_
  refine vc_seq ?_
  refine vc_go (by kernel_rfl) fun K hK => hK _ _ _ ?_
  clear hK K
  refine vc_seq ?_
  refine vc_seq ?_
  refine vc_go (by kernel_rfl) fun K hK => hK _ _ _ ?_
  clear hK K
  refine vc_cond (t := false) (bb (by rw [decide_eq_false_iff_not]; omega)) (fun h => by cases h) (fun _ => ?_)
  refine vc_skip ?_
  refine vc_seq ?_
  refine vc_reg (by kernel_rfl) fun K hK => ?_
  refine run_n (z := false) 3 (fun K' hK' => hK' _ _ _ ?_) (by decide)
  clear hK' K'
  refine run_fc (fun k => if k = 0 then (0, 0) else if k = 1 then (2, 0) else (3, 0)) h95 (hasF ⟨sf_winp (rcs_plain l) rfl get_zero, sf_winp (rc_plain r) rfl get_zero, sf_winp rfl rfl get_zero, trivial⟩ rfl) rfl rfl rfl rfl ⟨_, _, rfl, rfl⟩ ?_
  rintro _ _ ⟨rfl, rfl⟩
  refine run_end (z := false) fun K' hK' => hK' _ _ _ (hK _ _ _ ?_)
  clear hK' K' hK K
  refine vc_ret ⟨.inr rfl, ?_⟩
  exact res_plain ⟨rfl, rfl⟩ rfl rfl rfl

theorem p46k {l l2 : List Rn} {r : Rn} {b c : Nat} (hb : b ≤ 10000000) (h95 : FC 95 [qv 0 l.length c, rv r, .func (.func 96) #[] #[.pointer (some ⟨1, 0, none⟩), .pointer (some ⟨2, 0, none⟩)]] 3 [(0, .cells (rws rc l) 0 false), (1, .cells (rc r) 67 false), (2, .cells [u64 b] 22 false)] (fun v u => ∃ c2 sp2, plainL sp2 = true ∧ v = .tuple #[qv 3 (l.length + 1) c2, .int .i64 0] ∧ u = [(3, .cells (rws rc l2 ++ sp2) 67 true)])) : FC 46 [qv 0 l.length c, rv r, u64 b] 1 [(0, .cells (rws rc l) 0 false)] (fun v u => ∃ c2 sp2, plainL sp2 = true ∧ v = .tuple #[qv 1 (l.length + 1) c2, .int .i64 0] ∧ u = [(1, .cells (rws rc l2 ++ sp2) 67 true)]) := by
  refine fc_of [(0, .cells (rws rc l) 0 false)] 1 Try.func46 rfl Try.ntmps46 (by kernel_rfl) (by simp) rfl (bdH_c (by decide) (rcs_plain l) rfl) (hall_of rfl) ?_
  refine vc_seq ?_
  refine vc_go (by kernel_rfl) fun K hK => hK _ _ _ ?_
  clear hK K
  refine vc_seq ?_
  refine vc_seq ?_
  refine vc_go (by kernel_rfl) fun K hK => hK _ _ _ ?_
  clear hK K
  refine vc_cond (t := false) (bb (by rw [decide_eq_false_iff_not]; omega)) (fun h => by cases h) (fun _ => ?_)
  refine vc_skip ?_
  refine vc_seq ?_
  refine vc_reg (by kernel_rfl) fun K hK => ?_
  refine run_n (z := false) 3 (fun K' hK' => hK' _ _ _ ?_) (by decide)
  clear hK' K'
  refine run_fc (fun k => if k = 0 then (0, 0) else if k = 1 then (2, 0) else (3, 0)) h95 (hasF ⟨sf_winp (rcs_plain l) rfl get_zero, sf_winp (rc_plain r) rfl get_zero, sf_winp rfl rfl get_zero, trivial⟩ rfl) rfl rfl rfl rfl ⟨_, _, 0, [], rfl, rfl, rfl⟩ ?_
  rintro _ _ ⟨c3, sp2, hp2, rfl, rfl⟩
  rw [renU_c (renB_p (plainL_append (rcs_plain _) hp2)) renU_nil]
  refine run_end (z := false) fun K' hK' => hK' _ _ _ (hK _ _ _ ?_)
  clear hK' K' hK K
  refine vc_ret ⟨.inr rfl, ?_⟩
  exact res_of 8 _ _ ⟨c3, sp2, hp2, rfl, rfl⟩ (Nat.le_of_ble_eq_true rfl) rfl rfl ⟨sbu (plainL_append (rcs_plain _) hp2) rfl, trivial⟩ (bdH_c (by decide) (plainL_append (rcs_plain _) hp2) rfl) rfl (.inl (by simp))

theorem p46x {l : List Rn} {r : Rn} {b c : Nat} (hl : l.length ≤ 900) (hb : 10000000 < b) (hq : okq 0 l = true) : FC 46 [qv 0 l.length c, rv r, u64 b] 1 [(0, .cells (rws rc l) 0 false)] (fun v u => v = .tuple #[qnil, .int .i64 2] ∧ u = []) := by
  have h47 := p47 l c (by omega)
  rw [chk1_yes hq] at h47
  refine fc_of [(0, .cells (rws rc l) 0 false)] 1 Try.func46 rfl Try.ntmps46 (by kernel_rfl) (by simp) rfl (bdH_c (by decide) (rcs_plain l) rfl) (hall_of rfl) ?_
  refine vc_seq ?_
  refine vc_go (by kernel_rfl) fun K hK => hK _ _ _ ?_
  clear hK K
  refine vc_seq ?_
  refine vc_seq ?_
  refine vc_go (by kernel_rfl) fun K hK => hK _ _ _ ?_
  clear hK K
  refine vc_cond (t := true) (bb (by rw [decide_eq_true_eq]; omega)) (fun _ => ?_) (fun h => by cases h)
  refine vc_seq ?_
  refine vc_reg (by kernel_rfl) fun K hK => ?_
  refine run_n (z := false) 1 (fun K' hK' => hK' _ _ _ ?_) (by decide)
  clear hK' K'
  refine run_ro (fun _ => (0, 0)) (h47) ?_ rfl rfl rfl rfl ?_
  · intro x hx
    simp only [List.mem_singleton] at hx
    subst hx
    exact ⟨_, _, _, rfl, fun i v hv => by rw [Nat.zero_add]; exact hv⟩
  refine run_end (z := false) fun K' hK' => hK' _ _ _ (hK _ _ _ ?_)
  clear hK' K' hK K
  refine vc_seq ?_
  refine vc_seq ?_
  refine vc_go (by kernel_rfl) fun K hK => hK _ _ _ ?_
  clear hK K
  refine vc_cond (t := true) rfl (fun _ => ?_) (fun h => by cases h)
  refine vc_go (by kernel_rfl) fun K hK => hK _ _ _ ?_
  clear hK K
  refine vc_seq ?_
  refine vc_go (by kernel_rfl) fun K hK => hK _ _ _ ?_
  clear hK K
  refine vc_ret ⟨.inr rfl, ?_⟩
  exact res_plain ⟨rfl, rfl⟩ rfl rfl rfl

theorem p46y {l : List Rn} {r : Rn} {b c : Nat} (hl : l.length ≤ 900) (hb : 10000000 < b) (hq : okq 0 l = false) : FC 46 [qv 0 l.length c, rv r, u64 b] 1 [(0, .cells (rws rc l) 0 false)] (fun v u => v = .tuple #[qnil, .int .i64 200] ∧ u = []) := by
  have h47 := p47 l c (by omega)
  rw [chk1_no hq] at h47
  refine fc_of [(0, .cells (rws rc l) 0 false)] 1 Try.func46 rfl Try.ntmps46 (by kernel_rfl) (by simp) rfl (bdH_c (by decide) (rcs_plain l) rfl) (hall_of rfl) ?_
  refine vc_seq ?_
  refine vc_go (by kernel_rfl) fun K hK => hK _ _ _ ?_
  clear hK K
  refine vc_seq ?_
  refine vc_seq ?_
  refine vc_go (by kernel_rfl) fun K hK => hK _ _ _ ?_
  clear hK K
  refine vc_cond (t := true) (bb (by rw [decide_eq_true_eq]; omega)) (fun _ => ?_) (fun h => by cases h)
  refine vc_seq ?_
  refine vc_reg (by kernel_rfl) fun K hK => ?_
  refine run_n (z := false) 1 (fun K' hK' => hK' _ _ _ ?_) (by decide)
  clear hK' K'
  refine run_ro (fun _ => (0, 0)) (h47) ?_ rfl rfl rfl rfl ?_
  · intro x hx
    simp only [List.mem_singleton] at hx
    subst hx
    exact ⟨_, _, _, rfl, fun i v hv => by rw [Nat.zero_add]; exact hv⟩
  refine run_end (z := false) fun K' hK' => hK' _ _ _ (hK _ _ _ ?_)
  clear hK' K' hK K
  refine vc_seq ?_
  refine vc_seq ?_
  refine vc_go (by kernel_rfl) fun K hK => hK _ _ _ ?_
  clear hK K
  refine vc_cond (t := false) rfl (fun h => by cases h) (fun _ => ?_)
  refine vc_skip ?_
  refine vc_seq ?_
  refine vc_go (by kernel_rfl) fun K hK => hK _ _ _ ?_
  clear hK K
  refine vc_ret ⟨.inr rfl, ?_⟩
  exact res_plain ⟨rfl, rfl⟩ rfl rfl rfl

/-- What Join says: an error, or the queue. -/
def joinE (l : List Rn) (r : Rn) (b : Nat) : Int :=
  if 10000000 < b then (if okq 0 l = true then 2 else 200) else if okq 0 l = false then 200 else if okR r = false then 2 else if atB l r.id = true then 5 else
  match topS none l with
  | none => 0
  | some (a, v) => if sc a r.w v true < 2 ^ 100 then 0 else 131
def joinT (l : List Rn) (r : Rn) (b : Nat) : Nat :=
  match topS none l with
  | none => r.n
  | some (a, v) => joinN a v r.w (b * r.each.toNat) r.n
def joinQ (l : List Rn) (r : Rn) (b : Nat) : List Rn := insQ l (atI l r.id) { r with n := joinT l r b }
theorem topS_rt {l : List Rn} : ∀ {acc : Option (Nat × Nat)}, (∀ x ∈ l, okR x = true) → (∀ x, acc = some x → rt x.1 x.2 = true) → ∀ x, topS acc l = some x → rt x.1 x.2 = true := by
  induction l with
  | nil => intro acc _ h x hx; exact h x hx
  | cons r l ih =>
    intro acc hr h x hx
    refine ih (fun y hy => hr y (by simp [hy])) (fun y hy => ?_) x hx
    cases hy
    unfold top1
    split
    · exact okR_rt (hr r (by simp))
    · rename_i a v
      split
      · exact okR_rt (hr r (by simp))
      · exact h _ rfl
theorem p46 (l : List Rn) (r : Rn) (b c : Nat) (hl : l.length ≤ 900) (hc : l.length ≤ c) :
    (joinE l r b ≠ 0 ∧ FC 46 [qv 0 l.length c, rv r, u64 b] 1 [(0, .cells (rws rc l) 0 false)] (fun v u => v = .tuple #[qnil, .int .i64 (joinE l r b)] ∧ u = [])) ∨ (joinE l r b = 0 ∧ okq 0 l = true ∧ okR r = true ∧ atB l r.id = false ∧ b ≤ 10000000 ∧ FC 46 [qv 0 l.length c, rv r, u64 b] 1 [(0, .cells (rws rc l) 0 false)] (fun v u => ∃ c2 sp2, plainL sp2 = true ∧ v = .tuple #[qv 1 (l.length + 1) c2, .int .i64 0] ∧ u = [(1, .cells (rws rc (joinQ l r b) ++ sp2) 67 true)])) := by
  by_cases hb : 10000000 < b
  · left
    cases hq : okq 0 l
    · have e : joinE l r b = 200 := by simp [joinE, hb, hq]
      rw [e]
      exact ⟨by decide, p46y hl hb hq⟩
    · have e : joinE l r b = 2 := by simp [joinE, hb, hq]
      rw [e]
      exact ⟨by decide, p46x hl hb hq⟩
  have hb' : b ≤ 10000000 := by omega
  cases hq : okq 0 l
  · have e : joinE l r b = 200 := by simp [joinE, hb, hq]
    rw [e]
    exact .inl ⟨by decide, p46e hb' (p95e (p88c hl hq))⟩
  cases hr : okR r
  · have e : joinE l r b = 2 := by simp [joinE, hb, hq, hr]
    rw [e]
    exact .inl ⟨by decide, p46e hb' (p95e (p88e hl (by decide) hq fun c2 h2 => p121a hl h2 (zrow_plain rfl _) (zrow_len _ _) hq hr))⟩
  cases hat : atB l r.id
  case true =>
    have e : joinE l r b = 5 := by simp [joinE, hb, hq, hr, hat]
    rw [e]
    exact .inl ⟨by decide, p46e hb' (p95e (p88e hl (by decide) hq fun c2 h2 => p121b hl h2 (zrow_plain rfl _) (zrow_len _ _) hq hr hat))⟩
  cases ht : topS none l with
  | none =>
    have e : joinE l r b = 0 := by simp [joinE, hb, hq, hr, hat, ht]
    have et : joinT l r b = r.n := by simp [joinT, ht]
    refine .inr ⟨e, rfl, rfl, rfl, hb', p46k hb' (p95k (p88k (r2 := { r with n := joinT l r b }) hl hq fun c2 h2 => p121k (n2 := joinT l r b) hl h2 (zrow_plain rfl _) (zrow_len _ _) hq hr hat ?_))⟩
    rw [ht, et]
    exact p96n
  | some x =>
    obtain ⟨a, v⟩ := x
    have hrt := topS_rt (okq_mem hq) (fun x h => by cases h) _ ht
    by_cases hA : sc a r.w v true < 2 ^ 100
    · have e : joinE l r b = 0 := by simp [joinE, hb, hq, hr, hat, ht, hA]
      have et : joinT l r b = joinN a v r.w (b * r.each.toNat) r.n := by simp [joinT, ht]
      refine .inr ⟨e, rfl, rfl, rfl, hb', p46k hb' (p95k (p88k (r2 := { r with n := joinT l r b }) hl hq fun c2 h2 => p121k (n2 := joinT l r b) hl h2 (zrow_plain rfl _) (zrow_len _ _) hq hr hat ?_))⟩
      rw [ht, et]
      exact p96y hrt hr hb' hA
    · have e : joinE l r b = 131 := by simp [joinE, hb, hq, hr, hat, ht, hA]
      rw [e]
      refine .inl ⟨by decide, p46e hb' (p95e (p88e hl (by decide) hq fun c2 h2 => p121c hl h2 (zrow_plain rfl _) (zrow_len _ _) hq hr hat ?_))⟩
      rw [ht]
      exact p96r hrt hr hb' hA

end Go.Proofs.Ytdfkcijholopoaa.Vm
namespace Go.Proofs.Ytdfkcijholopoaa.Vm
open Go Go.RowKit
set_option maxRecDepth 10000
set_option linter.unusedSimpArgs false
set_option linter.unusedVariables false


theorem p99a {l : List Rn} {t : Int} {c : Nat} {sp : List Value} (hl : l.length ≤ 900) (hc : l.length ≤ c) (hsp : plainL sp = true) (ht : inI t 16 = false) : FC 99 [.pointer (some ⟨0, 0, none⟩), .pointer (some ⟨2, 0, none⟩), .pointer (some ⟨3, 0, none⟩)] 4 [(0, .cells [.slice (some ⟨1, 0, none⟩) l.length c] 55 true), (1, .cells (rws rc l ++ sp) 67 true), (2, .cells [.int .i64 t] 3 false), (3, .cells (rc z0) 67 true)] (fun v u => v = .int .i64 2 ∧ u = [(0, .cells [.slice (some ⟨1, 0, none⟩) l.length c] 55 true), (1, .cells (rws rc l ++ sp) 67 true), (3, .cells (rc z0) 67 true)]) := by
  have h100 := p100 t
  rw [ht] at h100
  refine fc_of [(0, .cells [.slice (some ⟨1, 0, none⟩) l.length c] 55 true), (1, .cells (rws rc l ++ sp) 67 true), (2, .cells [.int .i64 t] 3 false), (3, .cells (rc z0) 67 true)] 4 Try.func99 rfl Try.ntmps99 (by kernel_rfl) (by simp) rfl (by simp [bdH, bdB, bdL_plain, plainL_append (rcs_plain l) hsp, rcb, bdL, bdV]) (hall_of rfl) ?_
  refine vc_seq ?_
  refine vc_go (by kernel_rfl) fun K hK => hK _ _ _ ?_
  clear hK K
  refine vc_seq ?_
  refine vc_seq ?_
  refine vc_reg (by kernel_rfl) fun K hK => ?_
  refine run_n (z := false) 1 (fun K' hK' => hK' _ _ _ ?_) (by decide)
  clear hK' K'
  refine run_call (h100) rfl rfl rfl rfl ?_
  refine run_end (z := false) fun K' hK' => hK' _ _ _ (hK _ _ _ ?_)
  clear hK' K' hK K
  refine vc_cond (t := true) rfl (fun _ => ?_) (fun h => by cases h)
  refine vc_seq ?_
  refine vc_go (by kernel_rfl) fun K hK => hK _ _ _ ?_
  clear hK K
  refine vc_ret ⟨.inr rfl, ?_⟩
  exact res_of 200 _ _ ⟨rfl, rfl⟩ (Nat.le_of_ble_eq_true rfl) rfl rfl ⟨sbu' rfl, sbu (plainL_append (rcs_plain l) hsp) rfl, sbu (rc_plain z0) rfl, trivial⟩ (by simp [bdH, bdB, bdL_plain, plainL_append (rcs_plain l) hsp, rcb, bdL, bdV]) rfl (.inr (Nat.le_of_ble_eq_true rfl))

theorem p99b {l : List Rn} {t : Int} {c : Nat} {sp : List Value} (hl : l.length ≤ 900) (hc : l.length ≤ c) (hsp : plainL sp = true) (ht : inI t 16 = true) (hat : atB l t = false) : FC 99 [.pointer (some ⟨0, 0, none⟩), .pointer (some ⟨2, 0, none⟩), .pointer (some ⟨3, 0, none⟩)] 4 [(0, .cells [.slice (some ⟨1, 0, none⟩) l.length c] 55 true), (1, .cells (rws rc l ++ sp) 67 true), (2, .cells [.int .i64 t] 3 false), (3, .cells (rc z0) 67 true)] (fun v u => v = .int .i64 4 ∧ u = [(0, .cells [.slice (some ⟨1, 0, none⟩) l.length c] 55 true), (1, .cells (rws rc l ++ sp) 67 true), (3, .cells (rc z0) 67 true)]) := by
  have h100 := p100 t
  rw [ht] at h100
  have h92 := p92 (l := l) c t (by omega)
  rw [hat] at h92
  refine fc_of [(0, .cells [.slice (some ⟨1, 0, none⟩) l.length c] 55 true), (1, .cells (rws rc l ++ sp) 67 true), (2, .cells [.int .i64 t] 3 false), (3, .cells (rc z0) 67 true)] 4 Try.func99 rfl Try.ntmps99 (by kernel_rfl) (by simp) rfl (by simp [bdH, bdB, bdL_plain, plainL_append (rcs_plain l) hsp, rcb, bdL, bdV]) (hall_of rfl) ?_
  refine vc_seq ?_
  refine vc_go (by kernel_rfl) fun K hK => hK _ _ _ ?_
  clear hK K
  refine vc_seq ?_
  refine vc_seq ?_
  refine vc_reg (by kernel_rfl) fun K hK => ?_
  refine run_n (z := false) 1 (fun K' hK' => hK' _ _ _ ?_) (by decide)
  clear hK' K'
  refine run_call (h100) rfl rfl rfl rfl ?_
  refine run_end (z := false) fun K' hK' => hK' _ _ _ (hK _ _ _ ?_)
  clear hK' K' hK K
  refine vc_cond (t := false) rfl (fun h => by cases h) (fun _ => ?_)
  refine vc_skip ?_
  refine vc_seq ?_
  refine vc_regD [] (by kernel_rfl) (by kernel_rfl) fun K hK => ?_
  refine runD_n (z := false) 5 (fun K' hK' => hK' _ _ _ _ ?_) (by decide)
  clear hK' K'
  refine runD_ro (fun _ => (1, 0)) (h92) ?_ rfl rfl rfl rfl rfl ?_
  · intro x hx
    simp only [List.mem_singleton] at hx
    subst hx
    exact ⟨_, _, _, rfl, get_zero_app⟩
  refine runD_end (z := false) fun K' hK' => hK' _ _ _ _ (hK _ _ _ ?_)
  clear hK' K' hK K
  refine vc_seq ?_
  refine vc_seq ?_
  refine vc_go (by kernel_rfl) fun K hK => hK _ _ _ ?_
  clear hK K
  refine vc_cond (t := true) rfl (fun _ => ?_) (fun h => by cases h)
  refine vc_seq ?_
  refine vc_go (by kernel_rfl) fun K hK => hK _ _ _ ?_
  clear hK K
  refine vc_ret ⟨.inr rfl, ?_⟩
  exact res_of 200 _ _ ⟨rfl, rfl⟩ (Nat.le_of_ble_eq_true rfl) rfl rfl ⟨sbu' rfl, sbu (plainL_append (rcs_plain l) hsp) rfl, sbu (rc_plain z0) rfl, trivial⟩ (by simp [bdH, bdB, bdL_plain, plainL_append (rcs_plain l) hsp, rcb, bdL, bdV]) rfl (.inr (Nat.le_of_ble_eq_true rfl))

theorem p99k {l : List Rn} {t : Int} {c : Nat} {sp : List Value} (hl : l.length ≤ 900) (hc : l.length ≤ c) (hsp : plainL sp = true) {a : Rn} (ht : inI t 16 = true) (hat : atB l t = true) (ha : l[atI l t]? = some a) : FC 99 [.pointer (some ⟨0, 0, none⟩), .pointer (some ⟨2, 0, none⟩), .pointer (some ⟨3, 0, none⟩)] 4 [(0, .cells [.slice (some ⟨1, 0, none⟩) l.length c] 55 true), (1, .cells (rws rc l ++ sp) 67 true), (2, .cells [.int .i64 t] 3 false), (3, .cells (rc z0) 67 true)] (fun v u => ∃ sp2, plainL sp2 = true ∧ v = .int .i64 0 ∧ u = [(0, .cells [.slice (some ⟨1, 0, none⟩) (l.length - 1) c] 55 true), (1, .cells (rws rc (delQ l (atI l t)) ++ sp2) 67 true), (3, .cells (rc a) 67 true)]) := by
  have h100 := p100 t
  rw [ht] at h100
  have h92 := p92 (l := l) c t (by omega)
  rw [hat] at h92
  have hi : atI l t < l.length := (List.getElem?_eq_some_iff.1 ha).1
  have hw : IntKind.i64.wrap (((atI l t : Nat) : Int) + 1) = ((atI l t + 1 : Nat) : Int) := by rw [wrapI (by omega) (by omega)]; omega
  refine fc_of [(0, .cells [.slice (some ⟨1, 0, none⟩) l.length c] 55 true), (1, .cells (rws rc l ++ sp) 67 true), (2, .cells [.int .i64 t] 3 false), (3, .cells (rc z0) 67 true)] 4 Try.func99 rfl Try.ntmps99 (by kernel_rfl) (by simp) rfl (by simp [bdH, bdB, bdL_plain, plainL_append (rcs_plain l) hsp, rcb, bdL, bdV]) (hall_of rfl) ?_
  refine vc_seq ?_
  refine vc_go (by kernel_rfl) fun K hK => hK _ _ _ ?_
  clear hK K
  refine vc_seq ?_
  refine vc_seq ?_
  refine vc_reg (by kernel_rfl) fun K hK => ?_
  refine run_n (z := false) 1 (fun K' hK' => hK' _ _ _ ?_) (by decide)
  clear hK' K'
  refine run_call (h100) rfl rfl rfl rfl ?_
  refine run_end (z := false) fun K' hK' => hK' _ _ _ (hK _ _ _ ?_)
  clear hK' K' hK K
  refine vc_cond (t := false) rfl (fun h => by cases h) (fun _ => ?_)
  refine vc_skip ?_
  refine vc_seq ?_
  refine vc_regD [] (by kernel_rfl) (by kernel_rfl) fun K hK => ?_
  refine runD_n (z := false) 5 (fun K' hK' => hK' _ _ _ _ ?_) (by decide)
  clear hK' K'
  refine runD_ro (fun _ => (1, 0)) (h92) ?_ rfl rfl rfl rfl rfl ?_
  · intro x hx
    simp only [List.mem_singleton] at hx
    subst hx
    exact ⟨_, _, _, rfl, get_zero_app⟩
  refine runD_end (z := false) fun K' hK' => hK' _ _ _ _ (hK _ _ _ ?_)
  clear hK' K' hK K
  refine vc_seq ?_
  refine vc_seq ?_
  refine vc_go (by kernel_rfl) fun K hK => hK _ _ _ ?_
  clear hK K
  refine vc_cond (t := false) rfl (fun h => by cases h) (fun _ => ?_)
  refine vc_skip ?_
  refine vc_seq ?_
  refine vc_reg (by kernel_rfl) fun K hK => ?_
  refine run_n (z := false) 5 (fun K' hK' => hK' _ _ _ ?_) (by decide)
  clear hK' K'
  refine run_op (vex_ixs (j := atI l t) rfl rfl rfl hi rfl rfl) rfl ?_
  refine run_rd (vex_ldr rc_len (j := 0) (i := atI l t) (d := rc a) rfl (Nat.zero_add _) rfl rfl rfl ha (by decide) rfl) rfl ?_
  refine run_end (z := false) fun K' hK' => hK' _ _ _ (hK _ _ _ ?_)
  clear hK' K' hK K
  refine vc_seq ?_
  refine vc_reg (by kernel_rfl) fun K hK => ?_
  refine run_n (z := false) 8 (fun K' hK' => hK' _ _ _ ?_) (by decide)
  clear hK' K'
  refine run_fc (fun k => (1, 0)) (p101 (by omega) hc hsp hi) (hasF ⟨sf_ownp (plainL_append (rcs_plain l) hsp) rfl rfl, trivial⟩ rfl) rfl rfl (congrArg (fun x => [Value.slice (some ⟨1, 0, none⟩) l.length c, .int .i64 ((atI l t : Nat) : Int), .int .i64 x]) hw) rfl ⟨_, _, [], rfl, rfl, rfl⟩ ?_
  rintro _ _ ⟨sp2, hp2, rfl, rfl⟩
  rw [renU_c (renB_p (plainL_append (rcs_plain _) hp2)) renU_nil]
  refine run_end (z := false) fun K' hK' => hK' _ _ _ (hK _ _ _ ?_)
  clear hK' K' hK K
  refine vc_seq ?_
  refine vc_go (by kernel_rfl) fun K hK => hK _ _ _ ?_
  clear hK K
  refine vc_ret ⟨.inr rfl, ?_⟩
  exact res_of 200 _ _ ⟨sp2, hp2, rfl, rfl⟩ (Nat.le_of_ble_eq_true rfl) rfl rfl ⟨sbu' rfl, sbu (plainL_append (rcs_plain _) hp2) rfl, sbu (rc_plain a) rfl, trivial⟩ (by simp [bdH, bdB, bdL_plain, plainL_append (rcs_plain _) hp2, rcb, bdL, bdV]) rfl (.inr (Nat.le_of_ble_eq_true rfl))

theorem p88le {l : List Rn} {t : Int} {c : Nat} (hl : l.length ≤ 900) {e : Int} (he : e ≠ 0) (hq : okq 0 l = true) (h99 : ∀ c9, l.length ≤ c9 → FC 99 [.pointer (some ⟨0, 0, none⟩), .pointer (some ⟨2, 0, none⟩), .pointer (some ⟨3, 0, none⟩)] 4 [(0, .cells [.slice (some ⟨1, 0, none⟩) l.length c9] 55 true), (1, .cells (rws rc l ++ (zrow (c9 - l.length) z5)) 67 true), (2, .cells [.int .i64 t] 3 false), (3, .cells (rc z0) 67 true)] (fun v u => v = .int .i64 e ∧ u = [(0, .cells [.slice (some ⟨1, 0, none⟩) l.length c9] 55 true), (1, .cells (rws rc l ++ (zrow (c9 - l.length) z5)) 67 true), (3, .cells (rc z0) 67 true)])) : FC 88 [qv 0 l.length c, .func (.func 99) #[] #[.pointer (some ⟨1, 0, none⟩), .pointer (some ⟨2, 0, none⟩)]] 3 [(0, .cells (rws rc l) 0 false), (1, .cells [.int .i64 t] 3 false), (2, .cells (rc z0) 67 true)] (fun v u => v = .tuple #[qnil, .int .i64 e] ∧ u = [(2, .cells (rc z0) 67 true)]) := by
  have h47 := p47 l c (by omega)
  rw [chk1_yes hq] at h47
  refine fc_of [(0, .cells (rws rc l) 0 false), (1, .cells [.int .i64 t] 3 false), (2, .cells (rc z0) 67 true)] 3 Try.func88 rfl Try.ntmps88 (by kernel_rfl) (by simp) rfl (by simp [bdH, bdB, bdL_plain, rcs_plain, rcb, bdL, bdV]) (hall_of rfl) ?_
  refine vc_seq ?_
  refine vc_go (by kernel_rfl) fun K hK => hK _ _ _ ?_
  clear hK K
  refine vc_seq ?_
  refine vc_seq ?_
  refine vc_reg (by kernel_rfl) fun K hK => ?_
  refine run_n (z := false) 1 (fun K' hK' => hK' _ _ _ ?_) (by decide)
  clear hK' K'
  refine run_ro (fun _ => (0, 0)) (h47) ?_ rfl rfl rfl rfl ?_
  · intro x hx
    simp only [List.mem_singleton] at hx
    subst hx
    exact ⟨_, _, _, rfl, fun i v hv => by rw [Nat.zero_add]; exact hv⟩
  refine run_end (z := false) fun K' hK' => hK' _ _ _ (hK _ _ _ ?_)
  clear hK' K' hK K
  refine vc_seq ?_
  refine vc_go (by kernel_rfl) fun K hK => hK _ _ _ ?_
  clear hK K
  refine vc_cond (t := false) rfl (fun h => by cases h) (fun _ => ?_)
  refine vc_skip ?_
  refine vc_seq ?_
  refine vc_reg (by kernel_rfl) fun K hK => ?_
  refine run_n (z := false) 2 (fun K' hK' => hK' _ _ _ ?_) (by decide)
  clear hK' K'
  refine run_fc (fun k => (k, 0)) (p118 c (by omega)) (hasF ⟨sf_winp (rcs_plain l) rfl get_zero, trivial⟩ rfl) rfl rfl rfl rfl ⟨_, _, l.length, Nat.le_refl _, rfl, rfl⟩ ?_
  rintro _ _ ⟨c2, hc2, rfl, rfl⟩
  rw [renU_c (renB_p (spare_plain l _)) renU_nil]
  refine run_end (z := false) fun K' hK' => hK' _ _ _ (hK _ _ _ ?_)
  clear hK' K' hK K
  refine vc_seq ?_
  refine vc_seq ?_
  refine vc_reg (by kernel_rfl) fun K hK => ?_
  refine run_n (z := false) 1 (fun K' hK' => hK' _ _ _ ?_) (by decide)
  clear hK' K'
  refine run_fc (fun k => if k = 0 then (9, 0) else if k = 1 then (7, 0) else (k - 1, 0)) (h99 c2 hc2) (hasF ⟨sf_own rfl rfl, sf_ownp (spare_plain l _) rfl rfl, sf_winp rfl rfl get_zero, sf_ownp (rc_plain z0) rfl rfl, trivial⟩ rfl) rfl rfl rfl rfl ⟨_, _, rfl, rfl⟩ ?_
  rintro _ _ ⟨rfl, rfl⟩
  rw [renU_c rfl (renU_c (renB_p (spare_plain l _)) (renU_c (renB_p (rc_plain z0)) renU_nil))]
  refine run_end (z := false) fun K' hK' => hK' _ _ _ (hK _ _ _ ?_)
  clear hK' K' hK K
  refine vc_seq ?_
  refine vc_go (by kernel_rfl) fun K hK => hK _ _ _ ?_
  clear hK K
  refine vc_cond (t := true) (bb (bne_iff_ne.2 he)) (fun _ => ?_) (fun h => by cases h)
  refine vc_seq ?_
  refine vc_go (by kernel_rfl) fun K hK => hK _ _ _ ?_
  clear hK K
  refine vc_ret ⟨.inr rfl, ?_⟩
  exact res_of 200 _ _ ⟨rfl, rfl⟩ (Nat.le_of_ble_eq_true rfl) rfl rfl ⟨sbu (rc_plain z0) rfl, trivial⟩ (bdH_c (by decide) (rc_plain z0) rfl) rfl (.inr (Nat.le_of_ble_eq_true rfl))

theorem p88lc {l : List Rn} {t : Int} {c : Nat} (hl : l.length ≤ 900) (hq : okq 0 l = false) : FC 88 [qv 0 l.length c, .func (.func 99) #[] #[.pointer (some ⟨1, 0, none⟩), .pointer (some ⟨2, 0, none⟩)]] 3 [(0, .cells (rws rc l) 0 false), (1, .cells [.int .i64 t] 3 false), (2, .cells (rc z0) 67 true)] (fun v u => v = .tuple #[qnil, .int .i64 200] ∧ u = [(2, .cells (rc z0) 67 true)]) := by
  have h47 := p47 l c (by omega)
  rw [chk1_no hq] at h47
  refine fc_of [(0, .cells (rws rc l) 0 false), (1, .cells [.int .i64 t] 3 false), (2, .cells (rc z0) 67 true)] 3 Try.func88 rfl Try.ntmps88 (by kernel_rfl) (by simp) rfl (by simp [bdH, bdB, bdL_plain, rcs_plain, rcb, bdL, bdV]) (hall_of rfl) ?_
  refine vc_seq ?_
  refine vc_go (by kernel_rfl) fun K hK => hK _ _ _ ?_
  clear hK K
  refine vc_seq ?_
  refine vc_seq ?_
  refine vc_reg (by kernel_rfl) fun K hK => ?_
  refine run_n (z := false) 1 (fun K' hK' => hK' _ _ _ ?_) (by decide)
  clear hK' K'
  refine run_ro (fun _ => (0, 0)) (h47) ?_ rfl rfl rfl rfl ?_
  · intro x hx
    simp only [List.mem_singleton] at hx
    subst hx
    exact ⟨_, _, _, rfl, fun i v hv => by rw [Nat.zero_add]; exact hv⟩
  refine run_end (z := false) fun K' hK' => hK' _ _ _ (hK _ _ _ ?_)
  clear hK' K' hK K
  refine vc_seq ?_
  refine vc_go (by kernel_rfl) fun K hK => hK _ _ _ ?_
  clear hK K
  refine vc_cond (t := true) rfl (fun _ => ?_) (fun h => by cases h)
  refine vc_seq ?_
  refine vc_go (by kernel_rfl) fun K hK => hK _ _ _ ?_
  clear hK K
  refine vc_ret ⟨.inr rfl, ?_⟩
  exact res_of 200 _ _ ⟨rfl, rfl⟩ (Nat.le_of_ble_eq_true rfl) rfl rfl ⟨sbu (rc_plain z0) rfl, trivial⟩ (bdH_c (by decide) (rc_plain z0) rfl) rfl (.inr (Nat.le_of_ble_eq_true rfl))

theorem p88lk {l : List Rn} {t : Int} {c : Nat} (hl : l.length ≤ 900) {a : Rn} (hq : okq 0 l = true) (h99 : ∀ c9, l.length ≤ c9 → FC 99 [.pointer (some ⟨0, 0, none⟩), .pointer (some ⟨2, 0, none⟩), .pointer (some ⟨3, 0, none⟩)] 4 [(0, .cells [.slice (some ⟨1, 0, none⟩) l.length c9] 55 true), (1, .cells (rws rc l ++ (zrow (c9 - l.length) z5)) 67 true), (2, .cells [.int .i64 t] 3 false), (3, .cells (rc z0) 67 true)] (fun v u => ∃ sp2, plainL sp2 = true ∧ v = .int .i64 0 ∧ u = [(0, .cells [.slice (some ⟨1, 0, none⟩) (l.length - 1) c9] 55 true), (1, .cells (rws rc (delQ l (atI l t)) ++ sp2) 67 true), (3, .cells (rc a) 67 true)])) : FC 88 [qv 0 l.length c, .func (.func 99) #[] #[.pointer (some ⟨1, 0, none⟩), .pointer (some ⟨2, 0, none⟩)]] 3 [(0, .cells (rws rc l) 0 false), (1, .cells [.int .i64 t] 3 false), (2, .cells (rc z0) 67 true)] (fun v u => ∃ c2 sp2, l.length - 1 ≤ c2 ∧ plainL sp2 = true ∧ v = .tuple #[qv 3 (l.length - 1) c2, .int .i64 0] ∧ u = [(2, .cells (rc a) 67 true), (3, .cells (rws rc (delQ l (atI l t)) ++ sp2) 67 true)]) := by
  have h47 := p47 l c (by omega)
  rw [chk1_yes hq] at h47
  refine fc_of [(0, .cells (rws rc l) 0 false), (1, .cells [.int .i64 t] 3 false), (2, .cells (rc z0) 67 true)] 3 Try.func88 rfl Try.ntmps88 (by kernel_rfl) (by simp) rfl (by simp [bdH, bdB, bdL_plain, rcs_plain, rcb, bdL, bdV]) (hall_of rfl) ?_
  refine vc_seq ?_
  refine vc_go (by kernel_rfl) fun K hK => hK _ _ _ ?_
  clear hK K
  refine vc_seq ?_
  refine vc_seq ?_
  refine vc_reg (by kernel_rfl) fun K hK => ?_
  refine run_n (z := false) 1 (fun K' hK' => hK' _ _ _ ?_) (by decide)
  clear hK' K'
  refine run_ro (fun _ => (0, 0)) (h47) ?_ rfl rfl rfl rfl ?_
  · intro x hx
    simp only [List.mem_singleton] at hx
    subst hx
    exact ⟨_, _, _, rfl, fun i v hv => by rw [Nat.zero_add]; exact hv⟩
  refine run_end (z := false) fun K' hK' => hK' _ _ _ (hK _ _ _ ?_)
  clear hK' K' hK K
  refine vc_seq ?_
  refine vc_go (by kernel_rfl) fun K hK => hK _ _ _ ?_
  clear hK K
  refine vc_cond (t := false) rfl (fun h => by cases h) (fun _ => ?_)
  refine vc_skip ?_
  refine vc_seq ?_
  refine vc_reg (by kernel_rfl) fun K hK => ?_
  refine run_n (z := false) 2 (fun K' hK' => hK' _ _ _ ?_) (by decide)
  clear hK' K'
  refine run_fc (fun k => (k, 0)) (p118 c (by omega)) (hasF ⟨sf_winp (rcs_plain l) rfl get_zero, trivial⟩ rfl) rfl rfl rfl rfl ⟨_, _, l.length, Nat.le_refl _, rfl, rfl⟩ ?_
  rintro _ _ ⟨c2, hc2, rfl, rfl⟩
  rw [renU_c (renB_p (spare_plain l _)) renU_nil]
  refine run_end (z := false) fun K' hK' => hK' _ _ _ (hK _ _ _ ?_)
  clear hK' K' hK K
  refine vc_seq ?_
  refine vc_seq ?_
  refine vc_reg (by kernel_rfl) fun K hK => ?_
  refine run_n (z := false) 1 (fun K' hK' => hK' _ _ _ ?_) (by decide)
  clear hK' K'
  refine run_fc (fun k => if k = 0 then (9, 0) else if k = 1 then (7, 0) else (k - 1, 0)) (h99 c2 hc2) (hasF ⟨sf_own rfl rfl, sf_ownp (spare_plain l _) rfl rfl, sf_winp rfl rfl get_zero, sf_ownp (rc_plain z0) rfl rfl, trivial⟩ rfl) rfl rfl rfl rfl ⟨_, _, [], rfl, rfl, rfl⟩ ?_
  rintro _ _ ⟨sp2, hp2, rfl, rfl⟩
  rw [renU_c rfl (renU_c (renB_p (plainL_append (rcs_plain _) hp2)) (renU_c (renB_p (rc_plain a)) renU_nil))]
  refine run_end (z := false) fun K' hK' => hK' _ _ _ (hK _ _ _ ?_)
  clear hK' K' hK K
  refine vc_seq ?_
  refine vc_go (by kernel_rfl) fun K hK => hK _ _ _ ?_
  clear hK K
  refine vc_cond (t := false) rfl (fun h => by cases h) (fun _ => ?_)
  refine vc_skip ?_
  refine vc_seq ?_
  refine vc_go (by kernel_rfl) fun K hK => hK _ _ _ ?_
  clear hK K
  refine vc_ret ⟨.inr rfl, ?_⟩
  exact res_of 7 _ _ ⟨c2, sp2, by omega, hp2, rfl, rfl⟩ (Nat.le_of_ble_eq_true rfl) rfl rfl ⟨sbu (rc_plain _) rfl, sbu (plainL_append (rcs_plain _) hp2) rfl, trivial⟩ (bdH_c (by decide) (rc_plain _) (bdH_c (by decide) (plainL_append (rcs_plain _) hp2) rfl)) rfl (.inl (by simp))

theorem p49e {l : List Rn} {t : Int} {c : Nat} {e : Int} (h88 : FC 88 [qv 0 l.length c, .func (.func 99) #[] #[.pointer (some ⟨1, 0, none⟩), .pointer (some ⟨2, 0, none⟩)]] 3 [(0, .cells (rws rc l) 0 false), (1, .cells [.int .i64 t] 3 false), (2, .cells (rc z0) 67 true)] (fun v u => v = .tuple #[qnil, .int .i64 e] ∧ u = [(2, .cells (rc z0) 67 true)])) : FC 49 [qv 0 l.length c, .int .i64 t] 1 [(0, .cells (rws rc l) 0 false)] (fun v u => v = .tuple #[qnil, rv z0, .int .i64 e] ∧ u = []) := by
  refine fc_of [(0, .cells (rws rc l) 0 false)] 1 Try.func49 rfl Try.ntmps49 (by kernel_rfl) (by simp) rfl (bdH_c (by decide) (rcs_plain l) rfl) (hall_of rfl) ?_
  refine vc_seq ?_
  refine vc_go (by kernel_rfl) fun K hK => hK _ _ _ ?_
  clear hK K
  refine vc_seq ?_
  refine vc_go (by kernel_rfl) fun K hK => hK _ _ _ ?_
  clear hK K
  refine vc_seq ?_
  refine vc_reg (by kernel_rfl) fun K hK => ?_
  refine run_n (z := false) 2 (fun K' hK' => hK' _ _ _ ?_) (by decide)
  clear hK' K'
  refine run_fc (fun k => if k = 0 then (0, 0) else if k = 1 then (2, 0) else (5, 0)) h88 (hasF ⟨sf_winp (rcs_plain l) rfl get_zero, sf_winp rfl rfl get_zero, sf_ownp (rc_plain z0) rfl rfl, trivial⟩ rfl) rfl rfl rfl rfl ⟨_, _, rfl, rfl⟩ ?_
  rintro _ _ ⟨rfl, rfl⟩
  rw [renU_c (renB_p (rc_plain z0)) renU_nil]
  refine run_end (z := false) fun K' hK' => hK' _ _ _ (hK _ _ _ ?_)
  clear hK' K' hK K
  refine vc_seq ?_
  refine vc_goD [(1, 3)] (by kernel_rfl) (by kernel_rfl) fun K hK => hK _ _ _ _ ?_
  clear hK K
  refine vc_ret ⟨.inr rfl, ?_⟩
  exact res_plain ⟨rfl, rfl⟩ rfl rfl rfl

theorem p49k {l : List Rn} {t : Int} {c : Nat} {a : Rn} (h88 : FC 88 [qv 0 l.length c, .func (.func 99) #[] #[.pointer (some ⟨1, 0, none⟩), .pointer (some ⟨2, 0, none⟩)]] 3 [(0, .cells (rws rc l) 0 false), (1, .cells [.int .i64 t] 3 false), (2, .cells (rc z0) 67 true)] (fun v u => ∃ c2 sp2, l.length - 1 ≤ c2 ∧ plainL sp2 = true ∧ v = .tuple #[qv 3 (l.length - 1) c2, .int .i64 0] ∧ u = [(2, .cells (rc a) 67 true), (3, .cells (rws rc (delQ l (atI l t)) ++ sp2) 67 true)])) : FC 49 [qv 0 l.length c, .int .i64 t] 1 [(0, .cells (rws rc l) 0 false)] (fun v u => ∃ c2 sp2, l.length - 1 ≤ c2 ∧ plainL sp2 = true ∧ v = .tuple #[qv 1 (l.length - 1) c2, rv a, .int .i64 0] ∧ u = [(1, .cells (rws rc (delQ l (atI l t)) ++ sp2) 67 true)]) := by
  refine fc_of [(0, .cells (rws rc l) 0 false)] 1 Try.func49 rfl Try.ntmps49 (by kernel_rfl) (by simp) rfl (bdH_c (by decide) (rcs_plain l) rfl) (hall_of rfl) ?_
  refine vc_seq ?_
  refine vc_go (by kernel_rfl) fun K hK => hK _ _ _ ?_
  clear hK K
  refine vc_seq ?_
  refine vc_go (by kernel_rfl) fun K hK => hK _ _ _ ?_
  clear hK K
  refine vc_seq ?_
  refine vc_reg (by kernel_rfl) fun K hK => ?_
  refine run_n (z := false) 2 (fun K' hK' => hK' _ _ _ ?_) (by decide)
  clear hK' K'
  refine run_fc (fun k => if k = 0 then (0, 0) else if k = 1 then (2, 0) else (5, 0)) h88 (hasF ⟨sf_winp (rcs_plain l) rfl get_zero, sf_winp rfl rfl get_zero, sf_ownp (rc_plain z0) rfl rfl, trivial⟩ rfl) rfl rfl rfl rfl ⟨_, _, l.length - 1, [], Nat.le_refl _, rfl, rfl, rfl⟩ ?_
  rintro _ _ ⟨c2, sp2, hlc, hp2, rfl, rfl⟩
  rw [renU_c (renB_p (rc_plain a)) (renU_c (renB_p (plainL_append (rcs_plain _) hp2)) renU_nil)]
  refine run_end (z := false) fun K' hK' => hK' _ _ _ (hK _ _ _ ?_)
  clear hK' K' hK K
  refine vc_seq ?_
  refine vc_goD [(1, 3)] (by kernel_rfl) (by kernel_rfl) fun K hK => hK _ _ _ _ ?_
  clear hK K
  refine vc_ret ⟨.inr rfl, ?_⟩
  exact res_of 8 _ _ ⟨c2, sp2, hlc, hp2, rfl, rfl⟩ (Nat.le_of_ble_eq_true rfl) rfl rfl ⟨sbu (plainL_append (rcs_plain _) hp2) rfl, trivial⟩ (bdH_c (by decide) (plainL_append (rcs_plain _) hp2) rfl) rfl (.inl (by simp))

/-- What Leave says. -/
def leaveE (l : List Rn) (t : Int) : Int := if okq 0 l = false then 200 else if inI t 16 = false then 2 else if atB l t = false then 4 else 0
theorem p49 (l : List Rn) (t : Int) (c : Nat) (hl : l.length ≤ 900) :
    (leaveE l t ≠ 0 ∧ FC 49 [qv 0 l.length c, .int .i64 t] 1 [(0, .cells (rws rc l) 0 false)] (fun v u => v = .tuple #[qnil, rv z0, .int .i64 (leaveE l t)] ∧ u = [])) ∨ (leaveE l t = 0 ∧ okq 0 l = true ∧ inI t 16 = true ∧ atB l t = true ∧ ∃ a, l[atI l t]? = some a ∧ FC 49 [qv 0 l.length c, .int .i64 t] 1 [(0, .cells (rws rc l) 0 false)] (fun v u => ∃ c2 sp2, l.length - 1 ≤ c2 ∧ plainL sp2 = true ∧ v = .tuple #[qv 1 (l.length - 1) c2, rv a, .int .i64 0] ∧ u = [(1, .cells (rws rc (delQ l (atI l t)) ++ sp2) 67 true)])) := by
  cases hq : okq 0 l
  · have e : leaveE l t = 200 := by simp [leaveE, hq]
    rw [e]
    exact .inl ⟨by decide, p49e (p88lc hl hq)⟩
  cases ht : inI t 16
  · have e : leaveE l t = 2 := by simp [leaveE, hq, ht]
    rw [e]
    exact .inl ⟨by decide, p49e (p88le hl (by decide) hq fun c2 h2 => p99a hl h2 (zrow_plain rfl _) ht)⟩
  cases hat : atB l t
  · have e : leaveE l t = 4 := by simp [leaveE, hq, ht, hat]
    rw [e]
    exact .inl ⟨by decide, p49e (p88le hl (by decide) hq fun c2 h2 => p99b hl h2 (zrow_plain rfl _) ht hat)⟩
  · obtain ⟨a, ha, hi⟩ := atB_get hat
    have e : leaveE l t = 0 := by simp [leaveE, hq, ht, hat]
    exact .inr ⟨e, rfl, rfl, rfl, a, ha, p49k (p88lk hl hq fun c2 h2 => p99k hl h2 (zrow_plain rfl _) ht hat ha)⟩

end Go.Proofs.Ytdfkcijholopoaa.Vm
namespace Go.Proofs.Ytdfkcijholopoaa.Vm
open Go Go.RowKit
set_option maxRecDepth 10000
set_option linter.unusedSimpArgs false
set_option linter.unusedVariables false


theorem min_raw {l : List Rn} : (if (17 : Int) < (l.length : Int) then (17 : Int) else (l.length : Int)) = (((l.take 17).length : Nat) : Int) := by
  rw [List.length_take]
  split <;> omega
theorem take17 (l : List Rn) : (l.take 17).length ≤ 17 := by rw [List.length_take]; omega
theorem take17' (l : List Rn) : (l.take 17).length ≤ l.length := by rw [List.length_take]; omega
theorem get_take0 {l : List Rn} {i : Nat} : ∀ (k : Nat) (v : Value), (rws rc (l.take i))[k]? = some v → (rws rc l)[0 + k]? = some v := by
  rw [rws_take_drop l i]
  exact get_zero_app
theorem imin {a b : Int} (h : a = b) : Value.int .i64 a = .int .i64 b := by rw [h]


theorem p39 {l : List Rn} {c : Nat} (hc : l.length ≤ c) : FC 39 [qv 0 l.length c] 1 [(0, .cells (rws rc l) 0 false)] (fun v u => ∃ c2, (l.take 17).length ≤ c2 ∧ v = qv 1 (l.take 17).length c2 ∧ u = [(1, .cells (rws rc (l.take 17) ++ zrow (c2 - (l.take 17).length) z5) 67 true)]) := by
  refine fc_of [(0, .cells (rws rc l) 0 false)] 1 Try.func39 rfl Try.ntmps39 (by kernel_rfl) (by simp) rfl (bdH_c (by decide) (rcs_plain l) rfl) (hall_of rfl) ?_
  refine vc_seq ?_
  refine vc_go (by kernel_rfl) fun K hK => hK _ _ _ ?_
  clear hK K
  refine vc_seq ?_
  refine vc_reg (by kernel_rfl) fun K hK => ?_
  refine run_n (z := false) 6 (fun K' hK' => hK' _ _ _ ?_) (by decide)
  clear hK' K'
  refine run_op (vex_cut (j := (l.take 17).length) rfl rfl min_raw (Nat.le_trans (take17' l) hc) rfl rfl) rfl ?_
  refine run_n (z := false) 1 (fun K' hK' => hK' _ _ _ ?_) (by decide)
  clear hK' K'
  refine run_fc (fun k => (k, 0)) (p86 (l := (l.take 17)) c (by have := take17 l; omega)) (hasF ⟨sf_winp (rcs_plain _) rfl get_take0, trivial⟩ rfl) rfl rfl rfl rfl ⟨_, _, _, Nat.le_refl _, rfl, rfl⟩ ?_
  rintro _ _ ⟨c2, hc2, rfl, rfl⟩
  rw [renU_c (renB_p (spare_plain _ _)) renU_nil]
  refine run_end (z := false) fun K' hK' => hK' _ _ _ (hK _ _ _ ?_)
  clear hK' K' hK K
  refine vc_ret ⟨.inr rfl, ?_⟩
  exact res_of 11 _ _ ⟨c2, hc2, rfl, rfl⟩ (Nat.le_of_ble_eq_true rfl) rfl rfl ⟨sbu (spare_plain _ _) rfl, trivial⟩ (bdH_c (by decide) (spare_plain _ _) rfl) rfl (.inl (by simp))

theorem p86nil : FC 86 [qnil] 0 [] (fun v u => v = qv 0 0 0 ∧ u = [(0, .cells [] 67 true)]) := by
  refine fc_of [] 0 Try.func86 rfl Try.ntmps86 (by kernel_rfl) (by simp) rfl rfl (hall_of rfl) ?_
  refine vc_seq ?_
  refine vc_go (by kernel_rfl) fun K hK => hK _ _ _ ?_
  clear hK K
  refine vc_seq ?_
  refine vc_reg (by kernel_rfl) fun K hK => ?_
  refine run_n (z := false) 3 (fun K' hK' => hK' _ _ _ ?_) (by decide)
  clear hK' K'
  refine run_sp (sp_append_none (z := z5) rfl rfl rfl el67 rfl (Nat.le_refl 0) .nil) rfl rfl rfl ⟨_, _, rfl, rfl⟩ ?_
  rintro _ _ ⟨rfl, rfl⟩
  refine run_end (z := false) fun K' hK' => hK' _ _ _ (hK _ _ _ ?_)
  clear hK' K' hK K
  refine vc_ret ⟨.inr rfl, ?_⟩
  exact res_of 2 _ _ ⟨rfl, rfl⟩ (Nat.le_of_ble_eq_true rfl) rfl rfl ⟨sbu rfl rfl, trivial⟩ rfl rfl (.inl (by simp))

theorem p39nil : FC 39 [qnil] 0 [] (fun v u => v = qv 0 0 0 ∧ u = [(0, .cells [] 67 true)]) := by
  refine fc_of [] 0 Try.func39 rfl Try.ntmps39 (by kernel_rfl) (by simp) rfl rfl (hall_of rfl) ?_
  refine vc_seq ?_
  refine vc_go (by kernel_rfl) fun K hK => hK _ _ _ ?_
  clear hK K
  refine vc_seq ?_
  refine vc_reg (by kernel_rfl) fun K hK => ?_
  refine run_n (z := false) 8 (fun K' hK' => hK' _ _ _ ?_) (by decide)
  clear hK' K'
  refine run_fc (fun k => (k, 0)) p86nil (hasF trivial rfl) rfl rfl rfl rfl ⟨_, _, rfl, rfl⟩ ?_
  rintro _ _ ⟨rfl, rfl⟩
  refine run_end (z := false) fun K' hK' => hK' _ _ _ (hK _ _ _ ?_)
  clear hK' K' hK K
  refine vc_ret ⟨.inr rfl, ?_⟩
  exact res_of 10 _ _ ⟨rfl, rfl⟩ (Nat.le_of_ble_eq_true rfl) rfl rfl ⟨sbu rfl rfl, trivial⟩ rfl rfl (.inl (by simp))

theorem wd0 (a : Nat) : ((((a / 2 ^ 64 : Nat) : Int) == 0) && (((a % 2 ^ 64 : Nat) : Int) == 0)) = decide (a = 0) := by
  rw [Bool.eq_iff_iff]
  simp only [Bool.and_eq_true, beq_iff_eq, decide_eq_true_eq]
  omega


theorem p48a {a v b w : Nat} (ra : rt a v = true) (rb : rt b w = true) (hb : bh a v b w SLK = false) (h : a = 0) : Pure 48 [fr a v, fr b w] (.bool true) := by
  have h62 := p62y (k := 1) ra (by decide)
  have h44 := p44y (s := SLK) ra rb (by decide)
  rw [hb] at h44
  have h42 := p42y (rt_less 1 ra) rb
  refine pure_of Try.func48 rfl Try.ntmps48 (by kernel_rfl) rfl (by simp) rfl ?_
  refine vc_seq ?_
  refine vc_go (by kernel_rfl) fun K hK => hK _ _ _ ?_
  clear hK K
  refine vc_seq ?_
  refine vc_reg (by kernel_rfl) fun K hK => ?_
  refine run_n (z := false) 1 (fun K' hK' => hK' _ _ _ ?_) (by decide)
  clear hK' K'
  refine run_call (h62) rfl rfl rfl rfl ?_
  refine run_end (z := false) fun K' hK' => hK' _ _ _ (hK _ _ _ ?_)
  clear hK' K' hK K
  refine vc_seq ?_
  refine vc_reg (by kernel_rfl) fun K hK => ?_
  refine run_n (z := false) 3 (fun K' hK' => hK' _ _ _ ?_) (by decide)
  clear hK' K'
  refine vgo_known 14 (b := true) (rfl) ?_
  refine run_n (z := false) 2 (fun K' hK' => hK' _ _ _ ?_) (by decide)
  clear hK' K'
  refine run_call (h44) rfl rfl rfl rfl ?_
  refine run_n (z := false) 3 (fun K' hK' => hK' _ _ _ ?_) (by decide)
  clear hK' K'
  refine vgo_known 20 (b := true) (rfl) ?_
  refine run_n (z := false) 5 (fun K' hK' => hK' _ _ _ ?_) (by decide)
  clear hK' K'
  refine vgo_known 25 (b := true) (bb ((wd0 a).trans (decide_eq_true h))) ?_
  refine run_end (z := false) fun K' hK' => hK' _ _ _ (hK _ _ _ ?_)
  clear hK' K' hK K
  exact vc_ret ⟨.inr rfl, rfl⟩

theorem p48b {a v b w : Nat} (ra : rt a v = true) (rb : rt b w = true) (hb : bh a v b w SLK = false) (h : a ≠ 0) (hl : cmpW ((a - 1) * w) (b * v) < 0) : Pure 48 [fr a v, fr b w] (.bool true) := by
  have h62 := p62y (k := 1) ra (by decide)
  have h44 := p44y (s := SLK) ra rb (by decide)
  rw [hb] at h44
  have h42 := p42y (rt_less 1 ra) rb
  refine pure_of Try.func48 rfl Try.ntmps48 (by kernel_rfl) rfl (by simp) rfl ?_
  refine vc_seq ?_
  refine vc_go (by kernel_rfl) fun K hK => hK _ _ _ ?_
  clear hK K
  refine vc_seq ?_
  refine vc_reg (by kernel_rfl) fun K hK => ?_
  refine run_n (z := false) 1 (fun K' hK' => hK' _ _ _ ?_) (by decide)
  clear hK' K'
  refine run_call (h62) rfl rfl rfl rfl ?_
  refine run_end (z := false) fun K' hK' => hK' _ _ _ (hK _ _ _ ?_)
  clear hK' K' hK K
  refine vc_seq ?_
  refine vc_reg (by kernel_rfl) fun K hK => ?_
  refine run_n (z := false) 3 (fun K' hK' => hK' _ _ _ ?_) (by decide)
  clear hK' K'
  refine vgo_known 14 (b := true) (rfl) ?_
  refine run_n (z := false) 2 (fun K' hK' => hK' _ _ _ ?_) (by decide)
  clear hK' K'
  refine run_call (h44) rfl rfl rfl rfl ?_
  refine run_n (z := false) 3 (fun K' hK' => hK' _ _ _ ?_) (by decide)
  clear hK' K'
  refine vgo_known 20 (b := true) (rfl) ?_
  refine run_n (z := false) 5 (fun K' hK' => hK' _ _ _ ?_) (by decide)
  clear hK' K'
  refine vgo_known 25 (b := false) (bb ((wd0 a).trans (decide_eq_false h))) ?_
  refine run_n (z := false) 2 (fun K' hK' => hK' _ _ _ ?_) (by decide)
  clear hK' K'
  refine run_call (h42) rfl rfl rfl rfl ?_
  refine run_end (z := false) fun K' hK' => hK' _ _ _ (hK _ _ _ ?_)
  clear hK' K' hK K
  refine vc_ret ⟨.inr rfl, ?_⟩
  exact fin_bb (decide_eq_true hl)
end Go.Proofs.Ytdfkcijholopoaa.Vm
namespace Go.Proofs.Ytdfkcijholopoaa.Vm
open Go Go.RowKit
set_option linter.unusedSimpArgs false

def HasTR (t : Nat → Value) (F : Nat → Nat × Nat) : List (Nat × Value) → Prop
  | [] => True
  | (k, v) :: l => t k = renV F v ∧ HasTR t F l
theorem HasTR.mem {t : Nat → Value} {F : Nat → Nat × Nat} : ∀ {l : List (Nat × Value)}, HasTR t F l → ∀ x ∈ l, t x.1 = renV F x.2
  | [], _, x, hx => by cases hx
  | y :: l, h, x, hx => by
    rcases List.mem_cons.1 hx with rfl | hx
    · exact h.1
    · exact h.2.mem x hx
theorem fg_ren {B : Nat} {s : St} (g : Nat → Nat) (lt : List (Nat × Value)) (lh : List (Nat × Blk)) (K : Nat) (hB : B ≤ K) (hg : ∀ m, m < B → g m = m) (ht : HasTR s.t (fun k => (g k, 0)) lt) (hh : HasFl s.h (fun k => (g k, 0)) lh) (hb : bdT K lt = true) (hb' : bdH K lh = true)
    (hi : injF (fun k => (g k, 0)) (lh.map fun x => (x.1, x.2.own)) = true) : Fg B s (can lt lh K) := by
  refine fg_shift g lt lh K hB hg (fun x hx => ⟨ht.mem x hx, bdT_mem hb x hx⟩) (fun x hx => ?_) (fun x hx y hy hne ho => (hasF hh hi).2 x hx y hy hne ho)
  obtain ⟨h1, h2⟩ := bdH_mem hb' x hx
  exact ⟨hh.mem x hx, h2, h1⟩

theorem bdH_b {K k : Nat} {b : Blk} {l : List (Nat × Blk)} (hk : k < K) (hb : bdB K b = true) (hl : bdH K l = true) : bdH K ((k, b) :: l) = true := by
  simp [bdH, hk, hb, hl]
theorem set_split {l : List Rn} {i : Nat} {r r2 : Rn} (h : l[i]? = some r) : rws rc (l.set i r2) = rws rc (l.take i) ++ rc r2 ++ rws rc (l.drop (i + 1)) := by
  have hi := (List.getElem?_eq_some_iff.1 h).1
  have h2 : (l.set i r2)[i]? = some r2 := by simp [hi]
  rw [rws_split h2, List.take_set_of_le (Nat.le_refl i), List.drop_set_of_lt (by omega)]
/-- A part of an element, written. -/
theorem set_part {l : List Rn} {sp : List Value} {i j : Nat} {r r2 : Rn} {cs : List Value} (h : l[i]? = some r) (hj : j + cs.length ≤ 5) (hc : (rc r).take j ++ cs ++ (rc r).drop (j + cs.length) = rc r2) :
    (rws rc l ++ sp).take (i * 5 + j) ++ cs ++ (rws rc l ++ sp).drop (i * 5 + j + cs.length) = rws rc (l.set i r2) ++ sp := by
  have hi := (List.getElem?_eq_some_iff.1 h).1
  have hl : (rws rc (l.take i)).length = i * 5 := take_len (by omega)
  rw [set_split h, rws_split h]
  have e1 : (rws rc (l.take i) ++ rc r ++ rws rc (l.drop (i + 1)) ++ sp).take (i * 5 + j) = rws rc (l.take i) ++ (rc r).take j := by
    rw [List.append_assoc, List.append_assoc, ← hl, List.take_length_add_append, List.take_append_of_le_length (by rw [rc_len]; omega)]
  have e2 : (rws rc (l.take i) ++ rc r ++ rws rc (l.drop (i + 1)) ++ sp).drop (i * 5 + j + cs.length) = (rc r).drop (j + cs.length) ++ (rws rc (l.drop (i + 1)) ++ sp) := by
    rw [List.append_assoc, List.append_assoc, ← hl, Nat.add_assoc, List.drop_length_add_append, List.drop_append_of_le_length (by rw [rc_len]; omega)]
  rw [e1, e2, ← hc]
  simp [List.append_assoc]
section
variable {ev : Operand → Value} {h : Nat → Option Blk}
/-- A struct stored into a part of an element. -/
theorem vex_str {t : Nat} {x y : Operand} {m k i j : Nat} {l : List Rn} {sp cs : List Value} {tt : Nat} {ag : Bool} {z : List Value} {r r2 : Rn} (hx : ev x = .pointer (some ⟨m, k, none⟩)) (hk : k = i * 5 + j) (hh : h m = some (.cells (rws rc l ++ sp) tt true)) (ht : ty t = some (ag, z)) (hv : ev y = .agg cs.toArray)
    (hz : cs.length = z.length) (hone : cs.all (·.oneCell') = true) (ha : l[i]? = some r) (hj : j + cs.length ≤ 5) (hlt : cs.length < 5) (hc : (rc r).take j ++ cs ++ (rc r).drop (j + cs.length) = rc r2) :
    vex ev h (.store t x y) = some (.set m (.cells (rws rc (l.set i r2) ++ sp) tt true)) := by
  subst hk
  have hi := (List.getElem?_eq_some_iff.1 ha).1
  have hlen : l.length * 5 + sp.length = (rws rc l ++ sp).length := by rw [List.length_append, rws_len rc_len]
  have hi2 : (i + 1) * 5 ≤ l.length * 5 := Nat.mul_le_mul_right 5 hi
  simp only [vex, hx, ht, hh, hv, setAt]
  rw [if_pos ⟨by simp [hz], hone⟩]
  split
  · rename_i hcon
    obtain ⟨e1, e2⟩ := hcon
    omega
  · rw [if_pos (by omega), ← set_part ha hj hc]
    simp only [Option.map_some, hz]
/-- One cell of it. -/
theorem vex_stc {t : Nat} {x y : Operand} {m k i j : Nat} {l : List Rn} {sp : List Value} {tt : Nat} {ag : Bool} {z : List Value} {v : Value} {r r2 : Rn} (hx : ev x = .pointer (some ⟨m, k, none⟩)) (hk : k = i * 5 + j) (hh : h m = some (.cells (rws rc l ++ sp) tt true)) (ht : ty t = some (ag, z)) (hz : z.length = 1) (hv : ev y = v) (ho : v.oneCell' = true) (hna : ∀ a, v ≠ .agg a)
    (ha : l[i]? = some r) (hj : j < 5) (hc : (rc r).take j ++ [v] ++ (rc r).drop (j + 1) = rc r2) :
    vex ev h (.store t x y) = some (.set m (.cells (rws rc (l.set i r2) ++ sp) tt true)) := by
  have hi := (List.getElem?_eq_some_iff.1 ha).1
  have hlen : l.length * 5 + sp.length = (rws rc l ++ sp).length := by rw [List.length_append, rws_len rc_len]
  have hi2 : (i + 1) * 5 ≤ l.length * 5 := Nat.mul_le_mul_right 5 hi
  rw [vex_st1 hx hk hh ht hz hv ho hna (by omega), set_eq_splice _ _ _ (by omega)]
  have := set_part (sp := sp) ha (cs := [v]) (j := j) (by show j + 1 ≤ 5; omega) hc
  simp only [List.length_singleton] at this
  rw [this]
end
end Go.Proofs.Ytdfkcijholopoaa.Vm
