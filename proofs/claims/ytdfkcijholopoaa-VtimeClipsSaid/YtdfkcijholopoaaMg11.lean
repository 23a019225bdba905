/- What the proofs stand on, in one text: Tj, Tk, Tl. -/
import Derived.Test.YtdfkcijholopoaaMg10
namespace Go.Proofs.Ytdfkcijholopoaa.Vm
open Go Go.RowKit
set_option maxRecDepth 10000
set_option linter.unusedSimpArgs false
set_option linter.unusedVariables false


def ic (x : Int) : List Value := [.int .i64 x]
theorem ic_len (x : Int) : (ic x).length = 1 := rfl
theorem ic_plain (x : Int) : plainL (ic x) = true := rfl
theorem ic_one (x : Int) : (ic x).all (·.oneCell') = true := rfl
theorem ics_plain (l : List Int) : plainL (rws ic l) = true := rws_plain ic_plain l
/-- Numbers that may be, and rise. -/
def idsOk : Int → List Int → Bool
  | _, [] => true
  | last, x :: l => inI x 16 && (decide (last < x) && idsOk x l)
def plE (l : List Rn) (ids : List Int) : Int := if (ids.all fun t => atB l t) = true then 0 else 4
/-- The places. -/
def plQ (l : List Rn) (ids : List Int) : List Int := ids.map fun t => ((atI l t : Nat) : Int)
theorem plQ_len (l : List Rn) (ids : List Int) : (plQ l ids).length = ids.length := List.length_map _
theorem plQ_step {l : List Rn} {ids : List Int} {j : Nat} {x : Int} (h : ids[j]? = some x) : plQ l (ids.take (j + 1)) = plQ l (ids.take j) ++ [((atI l x : Nat) : Int)] := by
  rw [plQ, List.take_add_one, h]; simp [plQ]
theorem plE_no {l : List Rn} {ids : List Int} {j : Nat} {x : Int} (h : ids[j]? = some x) (hb : atB l x = false) : plE l (ids.take (j + 1)) = 4 := by
  rw [plE, List.take_add_one, h]; simp [hb]
theorem plE_yes {l : List Rn} {ids : List Int} {j : Nat} {x : Int} (h : ids[j]? = some x) (hb : atB l x = true) : plE l (ids.take (j + 1)) = plE l (ids.take j) := by
  rw [plE, plE, List.take_add_one, h]; simp [hb]
theorem idsOk_step {last x : Int} {l : List Int} (h : inI x 16 = true) (hb : decide (x ≤ last) = false) : idsOk last (x :: l) = idsOk x l := by
  rw [decide_eq_false_iff_not] at hb
  have : decide (last < x) = true := decide_eq_true (by omega)
  simp [idsOk, h, this]
theorem idsOk_bad {last x : Int} {l : List Int} (h : inI x 16 = false) : idsOk last (x :: l) = false := by simp [idsOk, h]
theorem idsOk_low {last x : Int} {l : List Int} (hb : decide (x ≤ last) = true) : idsOk last (x :: l) = false := by
  rw [decide_eq_true_eq] at hb
  have : decide (last < x) = false := decide_eq_false (by omega)
  simp [idsOk, this]
theorem ics_snoc (l : List Int) (x : Int) (sp : List Value) : rws ic (l ++ [x]) ++ sp = rws ic l ++ (.int .i64 x :: sp) := by rw [rws_append, List.append_assoc]; rfl
theorem ics_room {q : List Int} {x : Int} {sp : List Value} {j : Nat} (hq : q.length = j) : (rws ic q ++ sp).take (0 + j * [i0].length) ++ [.int .i64 x] ++ (rws ic q ++ sp).drop (0 + j * [i0].length + [Value.int .i64 x].length) = rws ic (q ++ [x]) ++ sp.drop 1 := by
  have hl : (rws ic q).length = 0 + j * [i0].length := by rw [rws_len ic_len, hq, Nat.zero_add]; rfl
  rw [← hl, List.take_left, ← List.drop_drop, List.drop_left, ics_snoc]
  simp
theorem ics_grow {q : List Int} {x : Int} {X : List Value} : rws ic q ++ [.int .i64 x] ++ X = rws ic (q ++ [x]) ++ X := by rw [rws_append]; rfl
theorem sf_eq {h : Nat → Option Blk} {f : Nat → Nat × Nat} {k : Nat} {c c0 : List Value} {t : TypeId} (hp : plainL c0 = true) (e : h (f k).1 = some (.cells c t true)) (hc : c = c0) (ho : (f k).2 = 0) : SbF h f k (.cells c0 t true) := by subst hc; exact sf_ownp hp e ho


theorem p127 {l : List Rn} {ids : List Int} {c mc : Nat} (hl : l.length ≤ 900) (hm : ids.length ≤ 900) : FC 127 [.pointer (some ⟨0, 0, none⟩), .slice (some ⟨2, 0, none⟩) ids.length mc] 3 [(0, .cells [.slice (some ⟨1, 0, none⟩) l.length c] 55 false), (1, .cells (rws rc l) 67 false), (2, .cells (rws ic ids) 3 false)] (fun v u => (idsOk 0 ids = false ∧ v = .tuple #[.slice none 0 0, .int .i64 2] ∧ u = []) ∨ (ids = [] ∧ v = .tuple #[.slice none 0 0, .int .i64 0] ∧ u = []) ∨ (idsOk 0 ids = true ∧ 0 < ids.length ∧ ∃ cap sp, plainL sp = true ∧ v = .tuple #[.slice (some ⟨3, 0, none⟩) ids.length cap, .int .i64 (plE l ids)] ∧ u = [(3, .cells (rws ic (plQ l ids) ++ sp) 3 true)])) := by
  refine fc_of [(0, .cells [.slice (some ⟨1, 0, none⟩) l.length c] 55 false), (1, .cells (rws rc l) 67 false), (2, .cells (rws ic ids) 3 false)] 3 Try.func127 rfl Try.ntmps127 (by kernel_rfl) (by simp) rfl (by simp [bdH, bdB, bdL_plain, rcs_plain, ics_plain, bdL, bdV]) (hall_of rfl) ?_
  refine vc_seq ?_
  refine vc_go (by kernel_rfl) fun K hK => hK _ _ _ ?_
  clear hK K
  refine vc_seq ?_
  refine vc_go (by kernel_rfl) fun K hK => hK _ _ _ ?_
  clear hK K
  refine vc_seq ?_
  refine vc_go (by kernel_rfl) fun K hK => hK _ _ _ ?_
  clear hK K
  refine vc_seq ?_
  refine vc_seq ?_
  refine vc_go (by kernel_rfl) fun K hK => hK _ _ _ ?_
  clear hK K
  refine vc_block ?_
  refine vc_loopF (fun n s => ∃ (j : Nat) (last : Int), n = ids.length - j ∧ j ≤ ids.length ∧ idsOk 0 ids = idsOk last (ids.drop j) ∧ ((j = 0 ∧ s = can [(0, .pointer (some ⟨0, 0, none⟩)), (1, .slice (some ⟨2, 0, none⟩) ids.length mc), (4, .slice none 0 0), (5, .int .i64 0), (6, .slice none 0 0), (7, .int .i64 last), (8, .int .i64 0), (13, .slice (some ⟨2, 0, none⟩) ids.length mc), (14, .int .i64 (ids.length : Int)), (15, .int .i64 ((j : Nat) : Int))] [(0, .cells [.slice (some ⟨1, 0, none⟩) l.length c] 55 false), (1, .cells (rws rc l) 67 false), (2, .cells (rws ic ids) 3 false)] 4) ∨ (0 < j ∧ ∃ (cap : Nat) (sp : List Value), j ≤ cap ∧ plainL sp = true ∧ sp.length = cap - j ∧ s = can [(0, .pointer (some ⟨0, 0, none⟩)), (1, .slice (some ⟨2, 0, none⟩) ids.length mc), (4, .slice none 0 0), (5, .int .i64 0), (6, .slice (some ⟨3, 0, none⟩) j cap), (7, .int .i64 last), (8, .int .i64 (plE l (ids.take j))), (13, .slice (some ⟨2, 0, none⟩) ids.length mc), (14, .int .i64 (ids.length : Int)), (15, .int .i64 ((j : Nat) : Int))] [(0, .cells [.slice (some ⟨1, 0, none⟩) l.length c] 55 false), (1, .cells (rws rc l) 67 false), (2, .cells (rws ic ids) 3 false), (3, .cells (rws ic (plQ l (ids.take j)) ++ sp) 3 true)] 4))) ids.length ?_ ?_
  · exact ⟨_, fg_focus [(0, .pointer (some ⟨0, 0, none⟩)), (1, .slice (some ⟨2, 0, none⟩) ids.length mc), (4, .slice none 0 0), (5, .int .i64 0), (6, .slice none 0 0), (7, .int .i64 0), (8, .int .i64 0), (13, .slice (some ⟨2, 0, none⟩) ids.length mc), (14, .int .i64 (ids.length : Int)), (15, .int .i64 ((0 : Nat) : Int))] [(0, .cells [.slice (some ⟨1, 0, none⟩) l.length c] 55 false), (1, .cells (rws rc l) 67 false), (2, .cells (rws ic ids) 3 false)] 4 (by decide) ⟨rfl, rfl, rfl, rfl, rfl, rfl, rfl, rfl, rfl, rfl, trivial⟩ ⟨sb rfl, sb rfl, sb rfl, trivial⟩ rfl (by simp [bdH, bdB, bdL_plain, rcs_plain, ics_plain, bdL, bdV]), 0, 0, rfl, Nat.zero_le _, rfl, .inl ⟨rfl, rfl⟩⟩
  · rintro n s ⟨j, last, hn, hj, hids, ⟨hj0, rfl⟩ | ⟨hj0, cap, sp, hcap, hsp, hspl, rfl⟩⟩
    · skip
      refine vc_seq ?_
      refine vc_go (by kernel_rfl) fun K hK => hK _ _ _ ?_
      clear hK K
      refine vc_seq ?_
      refine vc_cond rfl (fun c0 => ?_) (fun c0 => ?_)
      · -- cond 0 t16 true
        refine vc_skip ?_
        refine vc_seq ?_
        refine vc_block ?_
        refine vc_seq ?_
        have hlt := len_le c0
        obtain ⟨x, hx⟩ : ∃ x, ids[j]? = some x := ⟨ids[j], List.getElem?_eq_getElem hlt⟩
        refine vc_reg (by kernel_rfl) fun K hK => ?_
        refine run_op (vex_ixs (j := j) rfl rfl rfl hlt rfl rfl) rfl ?_
        refine run_rd (vex_ldc ic_len (j := 0) (i := j) rfl (Nat.zero_add _) rfl (rws_win ic ids) rfl hx (by decide) rfl) rfl ?_
        refine run_end (z := false) fun K' hK' => hK' _ _ _ (hK _ _ _ ?_)
        clear hK' K' hK K
        refine vc_seq ?_
        refine vc_seq ?_
        have h100 := p100 x
        have h92 := p92 (l := l) c x (by omega)
        cases hx16 : inI x 16 <;> rw [hx16] at h100
        · skip
          refine vc_reg (by kernel_rfl) fun K hK => ?_
          refine run_n (z := false) 1 (fun K' hK' => hK' _ _ _ ?_) (by decide)
          clear hK' K'
          refine run_call h100 rfl rfl rfl rfl ?_
          refine run_n (z := false) 2 (fun K' hK' => hK' _ _ _ ?_) (by decide)
          clear hK' K'
          refine vgo_known 22 (b := true) (rfl) ?_
          refine run_end (z := false) fun K' hK' => hK' _ _ _ (hK _ _ _ ?_)
          clear hK' K' hK K
          refine vc_cond (t := true) rfl (fun _ => ?_) (fun h => by cases h)
          refine vc_seq ?_
          refine vc_go (by kernel_rfl) fun K hK => hK _ _ _ ?_
          clear hK K
          refine vc_ret ⟨.inr rfl, ?_⟩
          exact res_plain (.inl ⟨by rw [hids, drop_cons hx]; exact idsOk_bad hx16, rfl, rfl⟩) rfl rfl rfl
        · skip
          refine vc_reg (by kernel_rfl) fun K hK => ?_
          refine run_n (z := false) 1 (fun K' hK' => hK' _ _ _ ?_) (by decide)
          clear hK' K'
          refine run_call h100 rfl rfl rfl rfl ?_
          refine run_n (z := false) 2 (fun K' hK' => hK' _ _ _ ?_) (by decide)
          clear hK' K'
          refine vgo_known 22 (b := false) (rfl) ?_
          refine run_end (z := false) fun K' hK' => hK' _ _ _ (hK _ _ _ ?_)
          clear hK' K' hK K
          refine vc_cond rfl (fun hlow => ?_) (fun hlow => ?_)
          · -- cond 2 t26 true
            refine vc_seq ?_
            refine vc_go (by kernel_rfl) fun K hK => hK _ _ _ ?_
            clear hK K
            refine vc_ret ⟨.inr rfl, ?_⟩
            exact res_plain (.inl ⟨by rw [hids, drop_cons hx]; exact idsOk_low hlow, rfl, rfl⟩) rfl rfl rfl
          · -- cond 2 t26 false
            refine vc_skip ?_
            refine vc_seq ?_
            refine vc_go (by kernel_rfl) fun K hK => hK _ _ _ ?_
            clear hK K
            refine vc_seq ?_
            cases hb : atB l x <;> rw [hb] at h92
            · skip
              refine vc_reg (by kernel_rfl) fun K hK => ?_
              refine run_n (z := false) 5 (fun K' hK' => hK' _ _ _ ?_) (by decide)
              clear hK' K'
              refine run_ro (fun _ => (1, 0)) h92 ?_ rfl rfl rfl rfl ?_
              · intro x hx
                simp only [List.mem_singleton] at hx
                subst hx
                exact ⟨_, _, _, rfl, fun i v hv => by rw [Nat.zero_add]; exact hv⟩
              refine run_end (z := false) fun K' hK' => hK' _ _ _ (hK _ _ _ ?_)
              clear hK' K' hK K
              refine vc_seq ?_
              refine vc_seq ?_
              refine vc_go (by kernel_rfl) fun K hK => hK _ _ _ ?_
              clear hK K
              refine vc_cond (t := true) rfl (fun _ => ?_) (fun h => by cases h)
              refine vc_go (by kernel_rfl) fun K hK => hK _ _ _ ?_
              clear hK K
              skip
              · skip
                refine vc_reg (by kernel_rfl) fun K hK => ?_
                refine run_n (z := false) 3 (fun K' hK' => hK' _ _ _ ?_) (by decide)
                clear hK' K'
                refine run_sp (sp_append_new (z := [i0]) rfl rfl rfl el3 .nil (.cells (own := true) (t := 3) (l := [Value.int .i64 ((atI l x : Nat) : Int)]) rfl rfl get_zero) rfl (by decide) (by decide)) rfl rfl rfl ⟨_, _, _, Nat.le_refl _, rfl, rfl⟩ ?_
                rintro _ _ ⟨cap2, hcap2, rfl, rfl⟩
                refine run_end (z := false) fun K' hK' => hK' _ _ _ (hK _ _ _ ?_)
                clear hK' K' hK K
                refine vc_go (by kernel_rfl) fun K hK => hK _ _ _ ?_
                clear hK K
                exact ⟨_, fg_ren (fun k => if k = 3 then 7 else k) [(0, .pointer (some ⟨0, 0, none⟩)), (1, .slice (some ⟨2, 0, none⟩) ids.length mc), (4, .slice none 0 0), (5, .int .i64 0), (6, .slice (some ⟨3, 0, none⟩) (j + 1) cap2), (7, .int .i64 x), (8, .int .i64 (plE l (ids.take (j + 1)))), (13, .slice (some ⟨2, 0, none⟩) ids.length mc), (14, .int .i64 (ids.length : Int)), (15, .int .i64 ((j + 1 : Nat) : Int))] [(0, .cells [.slice (some ⟨1, 0, none⟩) l.length c] 55 false), (1, .cells (rws rc l) 67 false), (2, .cells (rws ic ids) 3 false), (3, .cells (rws ic (plQ l (ids.take (j + 1))) ++ (zrow (cap2 - (j + 1)) [i0])) 3 true)] 4 (by decide) (fun m hm => if_neg (by omega)) ⟨rfl, rfl, rfl, rfl, by subst hj0; rfl, rfl, ii (by subst hj0; exact (plE_no hx hb).symm), rfl, rfl, by subst hj0; rfl, trivial⟩ ⟨sf_win1 rfl rfl rfl, sf_winp (rcs_plain l) rfl get_zero, sf_winp (ics_plain ids) rfl get_zero, sf_eq (plainL_append (ics_plain _) (zrow_plain rfl _)) rfl (by rw [plQ_step hx]; subst hj0; rfl) rfl, trivial⟩ rfl (bdH_b (by decide) rfl (bdH_c (by decide) (rcs_plain l) (bdH_c (by decide) (ics_plain ids) (bdH_c (by decide) (plainL_append (ics_plain _) (zrow_plain rfl _)) rfl)))) rfl, ids.length - (j + 1), by omega, j + 1, x, rfl, hlt, by rw [hids, drop_cons hx]; exact idsOk_step hx16 hlow, .inr ⟨by omega, cap2, (zrow (cap2 - (j + 1)) [i0]), (by omega), zrow_plain rfl _, by rw [zrow_len]; simp, rfl⟩⟩
            · skip
              refine vc_reg (by kernel_rfl) fun K hK => ?_
              refine run_n (z := false) 5 (fun K' hK' => hK' _ _ _ ?_) (by decide)
              clear hK' K'
              refine run_ro (fun _ => (1, 0)) h92 ?_ rfl rfl rfl rfl ?_
              · intro x hx
                simp only [List.mem_singleton] at hx
                subst hx
                exact ⟨_, _, _, rfl, fun i v hv => by rw [Nat.zero_add]; exact hv⟩
              refine run_end (z := false) fun K' hK' => hK' _ _ _ (hK _ _ _ ?_)
              clear hK' K' hK K
              refine vc_seq ?_
              refine vc_seq ?_
              refine vc_go (by kernel_rfl) fun K hK => hK _ _ _ ?_
              clear hK K
              refine vc_cond (t := false) rfl (fun h => by cases h) (fun _ => ?_)
              refine vc_skip ?_
              skip
              · skip
                refine vc_reg (by kernel_rfl) fun K hK => ?_
                refine run_n (z := false) 3 (fun K' hK' => hK' _ _ _ ?_) (by decide)
                clear hK' K'
                refine run_sp (sp_append_new (z := [i0]) rfl rfl rfl el3 .nil (.cells (own := true) (t := 3) (l := [Value.int .i64 ((atI l x : Nat) : Int)]) rfl rfl get_zero) rfl (by decide) (by decide)) rfl rfl rfl ⟨_, _, _, Nat.le_refl _, rfl, rfl⟩ ?_
                rintro _ _ ⟨cap2, hcap2, rfl, rfl⟩
                refine run_end (z := false) fun K' hK' => hK' _ _ _ (hK _ _ _ ?_)
                clear hK' K' hK K
                refine vc_go (by kernel_rfl) fun K hK => hK _ _ _ ?_
                clear hK K
                exact ⟨_, fg_ren (fun k => if k = 3 then 7 else k) [(0, .pointer (some ⟨0, 0, none⟩)), (1, .slice (some ⟨2, 0, none⟩) ids.length mc), (4, .slice none 0 0), (5, .int .i64 0), (6, .slice (some ⟨3, 0, none⟩) (j + 1) cap2), (7, .int .i64 x), (8, .int .i64 (plE l (ids.take (j + 1)))), (13, .slice (some ⟨2, 0, none⟩) ids.length mc), (14, .int .i64 (ids.length : Int)), (15, .int .i64 ((j + 1 : Nat) : Int))] [(0, .cells [.slice (some ⟨1, 0, none⟩) l.length c] 55 false), (1, .cells (rws rc l) 67 false), (2, .cells (rws ic ids) 3 false), (3, .cells (rws ic (plQ l (ids.take (j + 1))) ++ (zrow (cap2 - (j + 1)) [i0])) 3 true)] 4 (by decide) (fun m hm => if_neg (by omega)) ⟨rfl, rfl, rfl, rfl, by subst hj0; rfl, rfl, ii (by subst hj0; exact (plE_yes hx hb).symm), rfl, rfl, by subst hj0; rfl, trivial⟩ ⟨sf_win1 rfl rfl rfl, sf_winp (rcs_plain l) rfl get_zero, sf_winp (ics_plain ids) rfl get_zero, sf_eq (plainL_append (ics_plain _) (zrow_plain rfl _)) rfl (by rw [plQ_step hx]; subst hj0; rfl) rfl, trivial⟩ rfl (bdH_b (by decide) rfl (bdH_c (by decide) (rcs_plain l) (bdH_c (by decide) (ics_plain ids) (bdH_c (by decide) (plainL_append (ics_plain _) (zrow_plain rfl _)) rfl)))) rfl, ids.length - (j + 1), by omega, j + 1, x, rfl, hlt, by rw [hids, drop_cons hx]; exact idsOk_step hx16 hlow, .inr ⟨by omega, cap2, (zrow (cap2 - (j + 1)) [i0]), (by omega), zrow_plain rfl _, by rw [zrow_len]; simp, rfl⟩⟩
      · -- cond 0 t16 false
        refine vc_exit ?_
        refine vc_seq ?_
        refine vc_go (by kernel_rfl) fun K hK => hK _ _ _ ?_
        clear hK K
        refine vc_ret ⟨.inr rfl, ?_⟩
        have hge := len_ge c0
        exact res_plain (.inr (.inl ⟨nil_of (by omega), rfl, rfl⟩)) rfl rfl rfl
    · skip
      refine vc_seq ?_
      refine vc_go (by kernel_rfl) fun K hK => hK _ _ _ ?_
      clear hK K
      refine vc_seq ?_
      refine vc_cond rfl (fun c0 => ?_) (fun c0 => ?_)
      · -- cond 0 t16 true
        refine vc_skip ?_
        refine vc_seq ?_
        refine vc_block ?_
        refine vc_seq ?_
        have hlt := len_le c0
        obtain ⟨x, hx⟩ : ∃ x, ids[j]? = some x := ⟨ids[j], List.getElem?_eq_getElem hlt⟩
        refine vc_reg (by kernel_rfl) fun K hK => ?_
        refine run_op (vex_ixs (j := j) rfl rfl rfl hlt rfl rfl) rfl ?_
        refine run_rd (vex_ldc ic_len (j := 0) (i := j) rfl (Nat.zero_add _) rfl (rws_win ic ids) rfl hx (by decide) rfl) rfl ?_
        refine run_end (z := false) fun K' hK' => hK' _ _ _ (hK _ _ _ ?_)
        clear hK' K' hK K
        refine vc_seq ?_
        refine vc_seq ?_
        have h100 := p100 x
        have h92 := p92 (l := l) c x (by omega)
        cases hx16 : inI x 16 <;> rw [hx16] at h100
        · skip
          refine vc_reg (by kernel_rfl) fun K hK => ?_
          refine run_n (z := false) 1 (fun K' hK' => hK' _ _ _ ?_) (by decide)
          clear hK' K'
          refine run_call h100 rfl rfl rfl rfl ?_
          refine run_n (z := false) 2 (fun K' hK' => hK' _ _ _ ?_) (by decide)
          clear hK' K'
          refine vgo_known 22 (b := true) (rfl) ?_
          refine run_end (z := false) fun K' hK' => hK' _ _ _ (hK _ _ _ ?_)
          clear hK' K' hK K
          refine vc_cond (t := true) rfl (fun _ => ?_) (fun h => by cases h)
          refine vc_seq ?_
          refine vc_go (by kernel_rfl) fun K hK => hK _ _ _ ?_
          clear hK K
          refine vc_ret ⟨.inr rfl, ?_⟩
          exact res_plain (.inl ⟨by rw [hids, drop_cons hx]; exact idsOk_bad hx16, rfl, rfl⟩) rfl rfl rfl
        · skip
          refine vc_reg (by kernel_rfl) fun K hK => ?_
          refine run_n (z := false) 1 (fun K' hK' => hK' _ _ _ ?_) (by decide)
          clear hK' K'
          refine run_call h100 rfl rfl rfl rfl ?_
          refine run_n (z := false) 2 (fun K' hK' => hK' _ _ _ ?_) (by decide)
          clear hK' K'
          refine vgo_known 22 (b := false) (rfl) ?_
          refine run_end (z := false) fun K' hK' => hK' _ _ _ (hK _ _ _ ?_)
          clear hK' K' hK K
          refine vc_cond rfl (fun hlow => ?_) (fun hlow => ?_)
          · -- cond 2 t26 true
            refine vc_seq ?_
            refine vc_go (by kernel_rfl) fun K hK => hK _ _ _ ?_
            clear hK K
            refine vc_ret ⟨.inr rfl, ?_⟩
            exact res_plain (.inl ⟨by rw [hids, drop_cons hx]; exact idsOk_low hlow, rfl, rfl⟩) rfl rfl rfl
          · -- cond 2 t26 false
            refine vc_skip ?_
            refine vc_seq ?_
            refine vc_go (by kernel_rfl) fun K hK => hK _ _ _ ?_
            clear hK K
            refine vc_seq ?_
            cases hb : atB l x <;> rw [hb] at h92
            · skip
              refine vc_reg (by kernel_rfl) fun K hK => ?_
              refine run_n (z := false) 5 (fun K' hK' => hK' _ _ _ ?_) (by decide)
              clear hK' K'
              refine run_ro (fun _ => (1, 0)) h92 ?_ rfl rfl rfl rfl ?_
              · intro x hx
                simp only [List.mem_singleton] at hx
                subst hx
                exact ⟨_, _, _, rfl, fun i v hv => by rw [Nat.zero_add]; exact hv⟩
              refine run_end (z := false) fun K' hK' => hK' _ _ _ (hK _ _ _ ?_)
              clear hK' K' hK K
              refine vc_seq ?_
              refine vc_seq ?_
              refine vc_go (by kernel_rfl) fun K hK => hK _ _ _ ?_
              clear hK K
              refine vc_cond (t := true) rfl (fun _ => ?_) (fun h => by cases h)
              refine vc_go (by kernel_rfl) fun K hK => hK _ _ _ ?_
              clear hK K
              rcases Nat.lt_or_ge cap (j + 1) with hroom | hroom
              rotate_left
              · skip
                refine vc_reg (by kernel_rfl) fun K hK => ?_
                refine run_n (z := false) 3 (fun K' hK' => hK' _ _ _ ?_) (by decide)
                clear hK' K'
                refine run_sp (sp_append_room (z := [i0]) rfl rfl rfl el3 rfl rfl (.cells (own := true) (t := 3) (l := [Value.int .i64 ((atI l x : Nat) : Int)]) rfl rfl get_zero) rfl hroom (by rw [List.length_append, rws_len ic_len, plQ_len, List.length_take, hspl, Nat.min_eq_left (by omega)]; show 0 + j * 1 + 1 ≤ _; omega)) rfl rfl rfl ⟨_, _, rfl, rfl⟩ ?_
                rintro _ _ ⟨rfl, rfl⟩
                refine run_end (z := false) fun K' hK' => hK' _ _ _ (hK _ _ _ ?_)
                clear hK' K' hK K
                refine vc_go (by kernel_rfl) fun K hK => hK _ _ _ ?_
                clear hK K
                exact ⟨_, fg_focus [(0, .pointer (some ⟨0, 0, none⟩)), (1, .slice (some ⟨2, 0, none⟩) ids.length mc), (4, .slice none 0 0), (5, .int .i64 0), (6, .slice (some ⟨3, 0, none⟩) (j + 1) cap), (7, .int .i64 x), (8, .int .i64 (plE l (ids.take (j + 1)))), (13, .slice (some ⟨2, 0, none⟩) ids.length mc), (14, .int .i64 (ids.length : Int)), (15, .int .i64 ((j + 1 : Nat) : Int))] [(0, .cells [.slice (some ⟨1, 0, none⟩) l.length c] 55 false), (1, .cells (rws rc l) 67 false), (2, .cells (rws ic ids) 3 false), (3, .cells (rws ic (plQ l (ids.take (j + 1))) ++ (sp.drop 1)) 3 true)] 4 (by decide) ⟨rfl, rfl, rfl, rfl, rfl, rfl, ii ((plE_no hx hb).symm), rfl, rfl, ii (wrapI (by omega) (by omega)), trivial⟩ ⟨sb rfl, sb rfl, sb rfl, sbe rfl (by rw [plQ_step hx]; exact ics_room (by rw [plQ_len, List.length_take, Nat.min_eq_left (by omega)])), trivial⟩ rfl (bdH_b (by decide) rfl (bdH_c (by decide) (rcs_plain l) (bdH_c (by decide) (ics_plain ids) (bdH_c (by decide) (plainL_append (ics_plain _) (plainL_drop hsp 1)) rfl)))), ids.length - (j + 1), by omega, j + 1, x, rfl, hlt, by rw [hids, drop_cons hx]; exact idsOk_step hx16 hlow, .inr ⟨by omega, cap, sp.drop 1, hroom, plainL_drop hsp 1, by rw [List.length_drop, hspl]; omega, rfl⟩⟩
              · skip
                refine vc_reg (by kernel_rfl) fun K hK => ?_
                refine run_n (z := false) 3 (fun K' hK' => hK' _ _ _ ?_) (by decide)
                clear hK' K'
                refine run_sp (sp_append_grow (z := [i0]) rfl rfl rfl el3 (.cells (own := true) (t := 3) (l := rws ic (plQ l (ids.take j))) rfl (by rw [rws_len ic_len, plQ_len, List.length_take, Nat.min_eq_left (by omega)]; rfl) get_zero_app) (.cells (own := true) (t := 3) (l := [Value.int .i64 ((atI l x : Nat) : Int)]) rfl rfl get_zero) rfl hroom (by omega)) rfl rfl rfl ⟨_, _, _, Nat.le_refl _, rfl, rfl⟩ ?_
                rintro _ _ ⟨cap2, hcap2, rfl, rfl⟩
                refine run_end (z := false) fun K' hK' => hK' _ _ _ (hK _ _ _ ?_)
                clear hK' K' hK K
                refine vc_go (by kernel_rfl) fun K hK => hK _ _ _ ?_
                clear hK K
                exact ⟨_, fg_ren (fun k => if k = 3 then 7 else k) [(0, .pointer (some ⟨0, 0, none⟩)), (1, .slice (some ⟨2, 0, none⟩) ids.length mc), (4, .slice none 0 0), (5, .int .i64 0), (6, .slice (some ⟨3, 0, none⟩) (j + 1) cap2), (7, .int .i64 x), (8, .int .i64 (plE l (ids.take (j + 1)))), (13, .slice (some ⟨2, 0, none⟩) ids.length mc), (14, .int .i64 (ids.length : Int)), (15, .int .i64 ((j + 1 : Nat) : Int))] [(0, .cells [.slice (some ⟨1, 0, none⟩) l.length c] 55 false), (1, .cells (rws rc l) 67 false), (2, .cells (rws ic ids) 3 false), (3, .cells (rws ic (plQ l (ids.take (j + 1))) ++ (zrow (cap2 - (j + 1)) [i0])) 3 true)] 4 (by decide) (fun m hm => if_neg (by omega)) ⟨rfl, rfl, rfl, rfl, rfl, rfl, ii ((plE_no hx hb).symm), rfl, rfl, ii (wrapI (by omega) (by omega)), trivial⟩ ⟨sf_win1 rfl rfl rfl, sf_winp (rcs_plain l) rfl get_zero, sf_winp (ics_plain ids) rfl get_zero, sf_eq (plainL_append (ics_plain _) (zrow_plain rfl _)) rfl (by rw [plQ_step hx]; exact ics_grow) rfl, trivial⟩ rfl (bdH_b (by decide) rfl (bdH_c (by decide) (rcs_plain l) (bdH_c (by decide) (ics_plain ids) (bdH_c (by decide) (plainL_append (ics_plain _) (zrow_plain rfl _)) rfl)))) rfl, ids.length - (j + 1), by omega, j + 1, x, rfl, hlt, by rw [hids, drop_cons hx]; exact idsOk_step hx16 hlow, .inr ⟨by omega, cap2, (zrow (cap2 - (j + 1)) [i0]), hcap2, zrow_plain rfl _, by rw [zrow_len]; simp, rfl⟩⟩
            · skip
              refine vc_reg (by kernel_rfl) fun K hK => ?_
              refine run_n (z := false) 5 (fun K' hK' => hK' _ _ _ ?_) (by decide)
              clear hK' K'
              refine run_ro (fun _ => (1, 0)) h92 ?_ rfl rfl rfl rfl ?_
              · intro x hx
                simp only [List.mem_singleton] at hx
                subst hx
                exact ⟨_, _, _, rfl, fun i v hv => by rw [Nat.zero_add]; exact hv⟩
              refine run_end (z := false) fun K' hK' => hK' _ _ _ (hK _ _ _ ?_)
              clear hK' K' hK K
              refine vc_seq ?_
              refine vc_seq ?_
              refine vc_go (by kernel_rfl) fun K hK => hK _ _ _ ?_
              clear hK K
              refine vc_cond (t := false) rfl (fun h => by cases h) (fun _ => ?_)
              refine vc_skip ?_
              rcases Nat.lt_or_ge cap (j + 1) with hroom | hroom
              rotate_left
              · skip
                refine vc_reg (by kernel_rfl) fun K hK => ?_
                refine run_n (z := false) 3 (fun K' hK' => hK' _ _ _ ?_) (by decide)
                clear hK' K'
                refine run_sp (sp_append_room (z := [i0]) rfl rfl rfl el3 rfl rfl (.cells (own := true) (t := 3) (l := [Value.int .i64 ((atI l x : Nat) : Int)]) rfl rfl get_zero) rfl hroom (by rw [List.length_append, rws_len ic_len, plQ_len, List.length_take, hspl, Nat.min_eq_left (by omega)]; show 0 + j * 1 + 1 ≤ _; omega)) rfl rfl rfl ⟨_, _, rfl, rfl⟩ ?_
                rintro _ _ ⟨rfl, rfl⟩
                refine run_end (z := false) fun K' hK' => hK' _ _ _ (hK _ _ _ ?_)
                clear hK' K' hK K
                refine vc_go (by kernel_rfl) fun K hK => hK _ _ _ ?_
                clear hK K
                exact ⟨_, fg_focus [(0, .pointer (some ⟨0, 0, none⟩)), (1, .slice (some ⟨2, 0, none⟩) ids.length mc), (4, .slice none 0 0), (5, .int .i64 0), (6, .slice (some ⟨3, 0, none⟩) (j + 1) cap), (7, .int .i64 x), (8, .int .i64 (plE l (ids.take (j + 1)))), (13, .slice (some ⟨2, 0, none⟩) ids.length mc), (14, .int .i64 (ids.length : Int)), (15, .int .i64 ((j + 1 : Nat) : Int))] [(0, .cells [.slice (some ⟨1, 0, none⟩) l.length c] 55 false), (1, .cells (rws rc l) 67 false), (2, .cells (rws ic ids) 3 false), (3, .cells (rws ic (plQ l (ids.take (j + 1))) ++ (sp.drop 1)) 3 true)] 4 (by decide) ⟨rfl, rfl, rfl, rfl, rfl, rfl, ii ((plE_yes hx hb).symm), rfl, rfl, ii (wrapI (by omega) (by omega)), trivial⟩ ⟨sb rfl, sb rfl, sb rfl, sbe rfl (by rw [plQ_step hx]; exact ics_room (by rw [plQ_len, List.length_take, Nat.min_eq_left (by omega)])), trivial⟩ rfl (bdH_b (by decide) rfl (bdH_c (by decide) (rcs_plain l) (bdH_c (by decide) (ics_plain ids) (bdH_c (by decide) (plainL_append (ics_plain _) (plainL_drop hsp 1)) rfl)))), ids.length - (j + 1), by omega, j + 1, x, rfl, hlt, by rw [hids, drop_cons hx]; exact idsOk_step hx16 hlow, .inr ⟨by omega, cap, sp.drop 1, hroom, plainL_drop hsp 1, by rw [List.length_drop, hspl]; omega, rfl⟩⟩
              · skip
                refine vc_reg (by kernel_rfl) fun K hK => ?_
                refine run_n (z := false) 3 (fun K' hK' => hK' _ _ _ ?_) (by decide)
                clear hK' K'
                refine run_sp (sp_append_grow (z := [i0]) rfl rfl rfl el3 (.cells (own := true) (t := 3) (l := rws ic (plQ l (ids.take j))) rfl (by rw [rws_len ic_len, plQ_len, List.length_take, Nat.min_eq_left (by omega)]; rfl) get_zero_app) (.cells (own := true) (t := 3) (l := [Value.int .i64 ((atI l x : Nat) : Int)]) rfl rfl get_zero) rfl hroom (by omega)) rfl rfl rfl ⟨_, _, _, Nat.le_refl _, rfl, rfl⟩ ?_
                rintro _ _ ⟨cap2, hcap2, rfl, rfl⟩
                refine run_end (z := false) fun K' hK' => hK' _ _ _ (hK _ _ _ ?_)
                clear hK' K' hK K
                refine vc_go (by kernel_rfl) fun K hK => hK _ _ _ ?_
                clear hK K
                exact ⟨_, fg_ren (fun k => if k = 3 then 7 else k) [(0, .pointer (some ⟨0, 0, none⟩)), (1, .slice (some ⟨2, 0, none⟩) ids.length mc), (4, .slice none 0 0), (5, .int .i64 0), (6, .slice (some ⟨3, 0, none⟩) (j + 1) cap2), (7, .int .i64 x), (8, .int .i64 (plE l (ids.take (j + 1)))), (13, .slice (some ⟨2, 0, none⟩) ids.length mc), (14, .int .i64 (ids.length : Int)), (15, .int .i64 ((j + 1 : Nat) : Int))] [(0, .cells [.slice (some ⟨1, 0, none⟩) l.length c] 55 false), (1, .cells (rws rc l) 67 false), (2, .cells (rws ic ids) 3 false), (3, .cells (rws ic (plQ l (ids.take (j + 1))) ++ (zrow (cap2 - (j + 1)) [i0])) 3 true)] 4 (by decide) (fun m hm => if_neg (by omega)) ⟨rfl, rfl, rfl, rfl, rfl, rfl, ii ((plE_yes hx hb).symm), rfl, rfl, ii (wrapI (by omega) (by omega)), trivial⟩ ⟨sf_win1 rfl rfl rfl, sf_winp (rcs_plain l) rfl get_zero, sf_winp (ics_plain ids) rfl get_zero, sf_eq (plainL_append (ics_plain _) (zrow_plain rfl _)) rfl (by rw [plQ_step hx]; exact ics_grow) rfl, trivial⟩ rfl (bdH_b (by decide) rfl (bdH_c (by decide) (rcs_plain l) (bdH_c (by decide) (ics_plain ids) (bdH_c (by decide) (plainL_append (ics_plain _) (zrow_plain rfl _)) rfl)))) rfl, ids.length - (j + 1), by omega, j + 1, x, rfl, hlt, by rw [hids, drop_cons hx]; exact idsOk_step hx16 hlow, .inr ⟨by omega, cap2, (zrow (cap2 - (j + 1)) [i0]), hcap2, zrow_plain rfl _, by rw [zrow_len]; simp, rfl⟩⟩
      · -- cond 0 t16 false
        refine vc_exit ?_
        refine vc_seq ?_
        refine vc_go (by kernel_rfl) fun K hK => hK _ _ _ ?_
        clear hK K
        refine vc_ret ⟨.inr rfl, ?_⟩
        have hge := len_ge c0
        obtain rfl : j = ids.length := by omega
        rw [List.drop_length] at hids
        rw [List.take_length] at *
        exact res_of 3 _ _ (.inr (.inr ⟨hids, hj0, cap, sp, hsp, rfl, rfl⟩)) (Nat.le_of_ble_eq_true rfl) rfl rfl ⟨sbu (plainL_append (ics_plain _) hsp) rfl, trivial⟩ (bdH_c (by decide) (plainL_append (ics_plain _) hsp) rfl) rfl (.inl (by simp))

end Go.Proofs.Ytdfkcijholopoaa.Vm
namespace Go.Proofs.Ytdfkcijholopoaa.Vm
open Go Go.RowKit
set_option maxRecDepth 10000
set_option linter.unusedSimpArgs false
set_option linter.unusedVariables false


def kR (d : Nat) (r : Rn) : Nat := ((r.each % 2 ^ 64).toNat * d) % 2 ^ 64
def fRun (d : Nat) (r : Rn) : Int × Rn :=
  if rt r.n r.w = false then (150, { r with n := 0, w := 0 }) else if r.n + kR d r < 2 ^ 100 then (0, { r with n := r.n + kR d r }) else (131, { r with n := 0, w := 0 })
theorem kR_raw {d : Nat} (hd : d ≤ 10000000) (r : Rn) : IntKind.u64.wrap (IntKind.u64.wrap r.each * IntKind.u64.wrap (d : Int)) = ((kR d r : Nat) : Int) := by
  rw [wrap64 (d : Int), Int.emod_eq_of_lt (by omega) (by omega), wrap64, wrap64, kR]
  have h : ((r.each % 2 ^ 64).toNat : Int) = r.each % 2 ^ 64 := Int.toNat_of_nonneg (Int.emod_nonneg _ (by decide))
  rw [Int.natCast_emod, Int.natCast_mul, h]
  rfl
theorem kR_lt (d : Nat) (r : Rn) : kR d r < 2 ^ 64 := Nat.mod_lt _ (by decide)
def fWeigh (m : Int) (w : Nat) (r : Rn) : Int × Rn :=
  if rt r.n r.w = false then (150, { r with each := m, n := 0, w := 0 }) else if wt w = false then (2, { r with each := m, n := 0, w := 0 }) else if sc r.n w r.w true < 2 ^ 100 then (0, { r with each := m, n := sc r.n w r.w true, w := w }) else (131, { r with each := m, n := 0, w := 0 })


theorem p114n {l : List Rn} {sp : List Value} {i : Nat} {r : Rn} (ha : l[i]? = some r) (hsp : plainL sp = true) {d : Nat} (hd : d ≤ 10000000) (hr : rt r.n r.w = false) : FC 114 [.pointer (some ⟨0, i * 5, none⟩), .pointer (some ⟨1, 0, none⟩)] 2 [(0, .cells (rws rc l ++ sp) 67 true), (1, .cells [.int .i64 (d : Nat)] 2 false)] (fun v u => v = .int .i64 (fRun d r).1 ∧ u = [(0, .cells (rws rc (l.set i (fRun d r).2) ++ sp) 67 true)]) := by
  have hf : fRun d r = (150, { r with n := 0, w := 0 }) := if_pos hr
  rw [hf]
  refine fc_of [(0, .cells (rws rc l ++ sp) 67 true), (1, .cells [.int .i64 (d : Nat)] 2 false)] 2 Try.func114 rfl Try.ntmps114 (by kernel_rfl) (by simp) rfl (bdH_c (by decide) (plainL_append (rcs_plain l) hsp) (bdH_b (by decide) rfl rfl)) (hall_of rfl) ?_
  refine vc_seq ?_
  refine vc_go (by kernel_rfl) fun K hK => hK _ _ _ ?_
  clear hK K
  refine vc_seq ?_
  refine vc_regD [] (by kernel_rfl) (by kernel_rfl) fun K hK => ?_
  refine runD_n (z := false) 4 (fun K' hK' => hK' _ _ _ _ ?_) (by decide)
  clear hK' K'
  refine runD_rd (vex_ldr rc_len (j := 2) (i := i) (d := frc r.n r.w) rfl rfl rfl rfl rfl ha (by decide) rfl) rfl rfl ?_
  refine runD_n (z := false) 3 (fun K' hK' => hK' _ _ _ _ ?_) (by decide)
  clear hK' K'
  refine runD_rd (vex_ldc rc_len (j := 1) (i := i) rfl rfl rfl rfl rfl ha (by decide) rfl) rfl rfl ?_
  refine runD_n (z := false) 4 (fun K' hK' => hK' _ _ _ _ ?_) (by decide)
  clear hK' K'
  refine runD_call (p63n hr) rfl (congrArg (fun x => [fr r.n r.w, .int .u64 x]) (kR_raw hd r)) rfl rfl ?_
  refine runD_n (z := false) 5 (fun K' hK' => hK' _ _ _ _ ?_) (by decide)
  clear hK' K'
  refine runD_set (vex_str (j := 2) (cs := frc 0 0) (r2 := { r with n := 0, w := 0 }) rfl rfl rfl rfl rfl rfl rfl ha (Nat.le_of_ble_eq_true rfl) (Nat.le_of_ble_eq_true rfl) rfl) rfl (by decide) rfl rfl ?_
  refine runD_end (z := false) fun K' hK' => hK' _ _ _ _ (hK _ _ _ ?_)
  clear hK' K' hK K
  refine vc_seq ?_
  refine vc_go (by kernel_rfl) fun K hK => hK _ _ _ ?_
  clear hK K
  refine vc_ret ⟨.inr rfl, ?_⟩
  exact res_of 200 _ _ ⟨rfl, rfl⟩ (Nat.le_of_ble_eq_true rfl) rfl rfl ⟨sbu (plainL_append (rcs_plain _) hsp) rfl, trivial⟩ (bdH_c (by decide) (plainL_append (rcs_plain _) hsp) rfl) rfl (.inr (Nat.le_of_ble_eq_true rfl))

theorem p114y {l : List Rn} {sp : List Value} {i : Nat} {r : Rn} (ha : l[i]? = some r) (hsp : plainL sp = true) {d : Nat} (hd : d ≤ 10000000) (hr : rt r.n r.w = true) (h : r.n + kR d r < 2 ^ 100) : FC 114 [.pointer (some ⟨0, i * 5, none⟩), .pointer (some ⟨1, 0, none⟩)] 2 [(0, .cells (rws rc l ++ sp) 67 true), (1, .cells [.int .i64 (d : Nat)] 2 false)] (fun v u => v = .int .i64 (fRun d r).1 ∧ u = [(0, .cells (rws rc (l.set i (fRun d r).2) ++ sp) 67 true)]) := by
  have hf : fRun d r = (0, { r with n := r.n + kR d r }) := by rw [fRun, if_neg (by rw [hr]; simp), if_pos h]
  rw [hf]
  refine fc_of [(0, .cells (rws rc l ++ sp) 67 true), (1, .cells [.int .i64 (d : Nat)] 2 false)] 2 Try.func114 rfl Try.ntmps114 (by kernel_rfl) (by simp) rfl (bdH_c (by decide) (plainL_append (rcs_plain l) hsp) (bdH_b (by decide) rfl rfl)) (hall_of rfl) ?_
  refine vc_seq ?_
  refine vc_go (by kernel_rfl) fun K hK => hK _ _ _ ?_
  clear hK K
  refine vc_seq ?_
  refine vc_regD [] (by kernel_rfl) (by kernel_rfl) fun K hK => ?_
  refine runD_n (z := false) 4 (fun K' hK' => hK' _ _ _ _ ?_) (by decide)
  clear hK' K'
  refine runD_rd (vex_ldr rc_len (j := 2) (i := i) (d := frc r.n r.w) rfl rfl rfl rfl rfl ha (by decide) rfl) rfl rfl ?_
  refine runD_n (z := false) 3 (fun K' hK' => hK' _ _ _ _ ?_) (by decide)
  clear hK' K'
  refine runD_rd (vex_ldc rc_len (j := 1) (i := i) rfl rfl rfl rfl rfl ha (by decide) rfl) rfl rfl ?_
  refine runD_n (z := false) 4 (fun K' hK' => hK' _ _ _ _ ?_) (by decide)
  clear hK' K'
  refine runD_call (p63y hr (kR_lt d r) h) rfl (congrArg (fun x => [fr r.n r.w, .int .u64 x]) (kR_raw hd r)) rfl rfl ?_
  refine runD_n (z := false) 5 (fun K' hK' => hK' _ _ _ _ ?_) (by decide)
  clear hK' K'
  refine runD_set (vex_str (j := 2) (cs := frc (r.n + kR d r) r.w) (r2 := { r with n := (r.n + kR d r), w := r.w }) rfl rfl rfl rfl rfl rfl rfl ha (Nat.le_of_ble_eq_true rfl) (Nat.le_of_ble_eq_true rfl) rfl) rfl (by decide) rfl rfl ?_
  refine runD_end (z := false) fun K' hK' => hK' _ _ _ _ (hK _ _ _ ?_)
  clear hK' K' hK K
  refine vc_seq ?_
  refine vc_go (by kernel_rfl) fun K hK => hK _ _ _ ?_
  clear hK K
  refine vc_ret ⟨.inr rfl, ?_⟩
  exact res_of 200 _ _ ⟨rfl, rfl⟩ (Nat.le_of_ble_eq_true rfl) rfl rfl ⟨sbu (plainL_append (rcs_plain _) hsp) rfl, trivial⟩ (bdH_c (by decide) (plainL_append (rcs_plain _) hsp) rfl) rfl (.inr (Nat.le_of_ble_eq_true rfl))

theorem p114r {l : List Rn} {sp : List Value} {i : Nat} {r : Rn} (ha : l[i]? = some r) (hsp : plainL sp = true) {d : Nat} (hd : d ≤ 10000000) (hr : rt r.n r.w = true) (h : ¬ r.n + kR d r < 2 ^ 100) : FC 114 [.pointer (some ⟨0, i * 5, none⟩), .pointer (some ⟨1, 0, none⟩)] 2 [(0, .cells (rws rc l ++ sp) 67 true), (1, .cells [.int .i64 (d : Nat)] 2 false)] (fun v u => v = .int .i64 (fRun d r).1 ∧ u = [(0, .cells (rws rc (l.set i (fRun d r).2) ++ sp) 67 true)]) := by
  have hf : fRun d r = (131, { r with n := 0, w := 0 }) := by rw [fRun, if_neg (by rw [hr]; simp), if_neg h]
  rw [hf]
  refine fc_of [(0, .cells (rws rc l ++ sp) 67 true), (1, .cells [.int .i64 (d : Nat)] 2 false)] 2 Try.func114 rfl Try.ntmps114 (by kernel_rfl) (by simp) rfl (bdH_c (by decide) (plainL_append (rcs_plain l) hsp) (bdH_b (by decide) rfl rfl)) (hall_of rfl) ?_
  refine vc_seq ?_
  refine vc_go (by kernel_rfl) fun K hK => hK _ _ _ ?_
  clear hK K
  refine vc_seq ?_
  refine vc_regD [] (by kernel_rfl) (by kernel_rfl) fun K hK => ?_
  refine runD_n (z := false) 4 (fun K' hK' => hK' _ _ _ _ ?_) (by decide)
  clear hK' K'
  refine runD_rd (vex_ldr rc_len (j := 2) (i := i) (d := frc r.n r.w) rfl rfl rfl rfl rfl ha (by decide) rfl) rfl rfl ?_
  refine runD_n (z := false) 3 (fun K' hK' => hK' _ _ _ _ ?_) (by decide)
  clear hK' K'
  refine runD_rd (vex_ldc rc_len (j := 1) (i := i) rfl rfl rfl rfl rfl ha (by decide) rfl) rfl rfl ?_
  refine runD_n (z := false) 4 (fun K' hK' => hK' _ _ _ _ ?_) (by decide)
  clear hK' K'
  refine runD_call (p63r hr (kR_lt d r) h) rfl (congrArg (fun x => [fr r.n r.w, .int .u64 x]) (kR_raw hd r)) rfl rfl ?_
  refine runD_n (z := false) 5 (fun K' hK' => hK' _ _ _ _ ?_) (by decide)
  clear hK' K'
  refine runD_set (vex_str (j := 2) (cs := frc 0 0) (r2 := { r with n := 0, w := 0 }) rfl rfl rfl rfl rfl rfl rfl ha (Nat.le_of_ble_eq_true rfl) (Nat.le_of_ble_eq_true rfl) rfl) rfl (by decide) rfl rfl ?_
  refine runD_end (z := false) fun K' hK' => hK' _ _ _ _ (hK _ _ _ ?_)
  clear hK' K' hK K
  refine vc_seq ?_
  refine vc_go (by kernel_rfl) fun K hK => hK _ _ _ ?_
  clear hK K
  refine vc_ret ⟨.inr rfl, ?_⟩
  exact res_of 200 _ _ ⟨rfl, rfl⟩ (Nat.le_of_ble_eq_true rfl) rfl rfl ⟨sbu (plainL_append (rcs_plain _) hsp) rfl, trivial⟩ (bdH_c (by decide) (plainL_append (rcs_plain _) hsp) rfl) rfl (.inr (Nat.le_of_ble_eq_true rfl))

theorem p114 {l : List Rn} {sp : List Value} {i : Nat} {r : Rn} (ha : l[i]? = some r) (hsp : plainL sp = true) {d : Nat} (hd : d ≤ 10000000) : FC 114 [.pointer (some ⟨0, i * 5, none⟩), .pointer (some ⟨1, 0, none⟩)] 2 [(0, .cells (rws rc l ++ sp) 67 true), (1, .cells [.int .i64 (d : Nat)] 2 false)] (fun v u => v = .int .i64 (fRun d r).1 ∧ u = [(0, .cells (rws rc (l.set i (fRun d r).2) ++ sp) 67 true)]) := by
  cases hr : rt r.n r.w
  · exact p114n ha hsp hd hr
  · by_cases h : r.n + kR d r < 2 ^ 100
    · exact p114y ha hsp hd hr h
    · exact p114r ha hsp hd hr h


theorem p112n {l : List Rn} {sp : List Value} {i : Nat} {r : Rn} (ha : l[i]? = some r) (hsp : plainL sp = true) {m : Int} {w : Nat} (hr : rt r.n r.w = false) : FC 112 [.pointer (some ⟨0, i * 5, none⟩), .pointer (some ⟨1, 0, none⟩), .pointer (some ⟨2, 0, none⟩)] 3 [(0, .cells (rws rc l ++ sp) 67 true), (1, .cells [.int .i64 m] 3 false), (2, .cells [u64 w] 22 false)] (fun v u => v = .int .i64 (fWeigh m w r).1 ∧ u = [(0, .cells (rws rc (l.set i (fWeigh m w r).2) ++ sp) 67 true)]) := by
  have hf : fWeigh m w r = (150, { r with each := m, n := 0, w := 0 }) := if_pos hr
  rw [hf]
  have ha1 : (l.set i { r with each := m })[i]? = some { r with each := m } := by simp [(List.getElem?_eq_some_iff.1 ha).1]
  refine fc_of [(0, .cells (rws rc l ++ sp) 67 true), (1, .cells [.int .i64 m] 3 false), (2, .cells [u64 w] 22 false)] 3 Try.func112 rfl Try.ntmps112 (by kernel_rfl) (by simp) rfl (bdH_c (by decide) (plainL_append (rcs_plain l) hsp) (bdH_b (by decide) rfl (bdH_b (by decide) rfl rfl))) (hall_of rfl) ?_
  refine vc_seq ?_
  refine vc_go (by kernel_rfl) fun K hK => hK _ _ _ ?_
  clear hK K
  refine vc_seq ?_
  refine vc_reg (by kernel_rfl) fun K hK => ?_
  refine run_n (z := false) 4 (fun K' hK' => hK' _ _ _ ?_) (by decide)
  clear hK' K'
  refine run_set (vex_stc (j := 1) (r2 := { r with each := m }) rfl rfl rfl rfl rfl rfl rfl (by intro a h; cases h) ha (by decide) rfl) rfl (by decide) rfl ?_
  refine run_end (z := false) fun K' hK' => hK' _ _ _ (hK _ _ _ ?_)
  clear hK' K' hK K
  refine vc_seq ?_
  refine vc_regD [] (by kernel_rfl) (by kernel_rfl) fun K hK => ?_
  refine runD_n (z := false) 4 (fun K' hK' => hK' _ _ _ _ ?_) (by decide)
  clear hK' K'
  refine runD_rd (vex_ldr rc_len (j := 2) (i := i) (d := frc r.n r.w) rfl rfl rfl rfl rfl ha1 (by decide) rfl) rfl rfl ?_
  refine runD_n (z := false) 1 (fun K' hK' => hK' _ _ _ _ ?_) (by decide)
  clear hK' K'
  refine runD_call (p61n hr) rfl rfl rfl rfl ?_
  refine runD_n (z := false) 5 (fun K' hK' => hK' _ _ _ _ ?_) (by decide)
  clear hK' K'
  refine runD_set (vex_str (j := 2) (cs := frc 0 0) (r2 := { r with each := m, n := 0, w := 0 }) rfl rfl rfl rfl rfl rfl rfl ha1 (Nat.le_of_ble_eq_true rfl) (Nat.le_of_ble_eq_true rfl) rfl) rfl (by decide) rfl rfl ?_
  refine runD_end (z := false) fun K' hK' => hK' _ _ _ _ (hK _ _ _ ?_)
  clear hK' K' hK K
  refine vc_seq ?_
  refine vc_go (by kernel_rfl) fun K hK => hK _ _ _ ?_
  clear hK K
  refine vc_ret ⟨.inr rfl, ?_⟩
  exact res_of 200 _ _ ⟨rfl, rfl⟩ (Nat.le_of_ble_eq_true rfl) rfl rfl ⟨sbu_eq (plainL_append (rcs_plain _) hsp) rfl (by rw [List.set_set]), trivial⟩ (bdH_c (by decide) (plainL_append (rcs_plain _) hsp) rfl) rfl (.inr (Nat.le_of_ble_eq_true rfl))

theorem p112w {l : List Rn} {sp : List Value} {i : Nat} {r : Rn} (ha : l[i]? = some r) (hsp : plainL sp = true) {m : Int} {w : Nat} (hr : rt r.n r.w = true) (hw : wt w = false) : FC 112 [.pointer (some ⟨0, i * 5, none⟩), .pointer (some ⟨1, 0, none⟩), .pointer (some ⟨2, 0, none⟩)] 3 [(0, .cells (rws rc l ++ sp) 67 true), (1, .cells [.int .i64 m] 3 false), (2, .cells [u64 w] 22 false)] (fun v u => v = .int .i64 (fWeigh m w r).1 ∧ u = [(0, .cells (rws rc (l.set i (fWeigh m w r).2) ++ sp) 67 true)]) := by
  have hf : fWeigh m w r = (2, { r with each := m, n := 0, w := 0 }) := by rw [fWeigh, if_neg (by rw [hr]; simp), if_pos hw]
  rw [hf]
  have ha1 : (l.set i { r with each := m })[i]? = some { r with each := m } := by simp [(List.getElem?_eq_some_iff.1 ha).1]
  refine fc_of [(0, .cells (rws rc l ++ sp) 67 true), (1, .cells [.int .i64 m] 3 false), (2, .cells [u64 w] 22 false)] 3 Try.func112 rfl Try.ntmps112 (by kernel_rfl) (by simp) rfl (bdH_c (by decide) (plainL_append (rcs_plain l) hsp) (bdH_b (by decide) rfl (bdH_b (by decide) rfl rfl))) (hall_of rfl) ?_
  refine vc_seq ?_
  refine vc_go (by kernel_rfl) fun K hK => hK _ _ _ ?_
  clear hK K
  refine vc_seq ?_
  refine vc_reg (by kernel_rfl) fun K hK => ?_
  refine run_n (z := false) 4 (fun K' hK' => hK' _ _ _ ?_) (by decide)
  clear hK' K'
  refine run_set (vex_stc (j := 1) (r2 := { r with each := m }) rfl rfl rfl rfl rfl rfl rfl (by intro a h; cases h) ha (by decide) rfl) rfl (by decide) rfl ?_
  refine run_end (z := false) fun K' hK' => hK' _ _ _ (hK _ _ _ ?_)
  clear hK' K' hK K
  refine vc_seq ?_
  refine vc_regD [] (by kernel_rfl) (by kernel_rfl) fun K hK => ?_
  refine runD_n (z := false) 4 (fun K' hK' => hK' _ _ _ _ ?_) (by decide)
  clear hK' K'
  refine runD_rd (vex_ldr rc_len (j := 2) (i := i) (d := frc r.n r.w) rfl rfl rfl rfl rfl ha1 (by decide) rfl) rfl rfl ?_
  refine runD_n (z := false) 1 (fun K' hK' => hK' _ _ _ _ ?_) (by decide)
  clear hK' K'
  refine runD_call (p61w hr hw) rfl rfl rfl rfl ?_
  refine runD_n (z := false) 5 (fun K' hK' => hK' _ _ _ _ ?_) (by decide)
  clear hK' K'
  refine runD_set (vex_str (j := 2) (cs := frc 0 0) (r2 := { r with each := m, n := 0, w := 0 }) rfl rfl rfl rfl rfl rfl rfl ha1 (Nat.le_of_ble_eq_true rfl) (Nat.le_of_ble_eq_true rfl) rfl) rfl (by decide) rfl rfl ?_
  refine runD_end (z := false) fun K' hK' => hK' _ _ _ _ (hK _ _ _ ?_)
  clear hK' K' hK K
  refine vc_seq ?_
  refine vc_go (by kernel_rfl) fun K hK => hK _ _ _ ?_
  clear hK K
  refine vc_ret ⟨.inr rfl, ?_⟩
  exact res_of 200 _ _ ⟨rfl, rfl⟩ (Nat.le_of_ble_eq_true rfl) rfl rfl ⟨sbu_eq (plainL_append (rcs_plain _) hsp) rfl (by rw [List.set_set]), trivial⟩ (bdH_c (by decide) (plainL_append (rcs_plain _) hsp) rfl) rfl (.inr (Nat.le_of_ble_eq_true rfl))

theorem p112y {l : List Rn} {sp : List Value} {i : Nat} {r : Rn} (ha : l[i]? = some r) (hsp : plainL sp = true) {m : Int} {w : Nat} (hr : rt r.n r.w = true) (hw : wt w = true) (h : sc r.n w r.w true < 2 ^ 100) : FC 112 [.pointer (some ⟨0, i * 5, none⟩), .pointer (some ⟨1, 0, none⟩), .pointer (some ⟨2, 0, none⟩)] 3 [(0, .cells (rws rc l ++ sp) 67 true), (1, .cells [.int .i64 m] 3 false), (2, .cells [u64 w] 22 false)] (fun v u => v = .int .i64 (fWeigh m w r).1 ∧ u = [(0, .cells (rws rc (l.set i (fWeigh m w r).2) ++ sp) 67 true)]) := by
  have hf : fWeigh m w r = (0, { r with each := m, n := sc r.n w r.w true, w := w }) := by rw [fWeigh, if_neg (by rw [hr]; simp), if_neg (by rw [hw]; simp), if_pos h]
  rw [hf]
  have ha1 : (l.set i { r with each := m })[i]? = some { r with each := m } := by simp [(List.getElem?_eq_some_iff.1 ha).1]
  refine fc_of [(0, .cells (rws rc l ++ sp) 67 true), (1, .cells [.int .i64 m] 3 false), (2, .cells [u64 w] 22 false)] 3 Try.func112 rfl Try.ntmps112 (by kernel_rfl) (by simp) rfl (bdH_c (by decide) (plainL_append (rcs_plain l) hsp) (bdH_b (by decide) rfl (bdH_b (by decide) rfl rfl))) (hall_of rfl) ?_
  refine vc_seq ?_
  refine vc_go (by kernel_rfl) fun K hK => hK _ _ _ ?_
  clear hK K
  refine vc_seq ?_
  refine vc_reg (by kernel_rfl) fun K hK => ?_
  refine run_n (z := false) 4 (fun K' hK' => hK' _ _ _ ?_) (by decide)
  clear hK' K'
  refine run_set (vex_stc (j := 1) (r2 := { r with each := m }) rfl rfl rfl rfl rfl rfl rfl (by intro a h; cases h) ha (by decide) rfl) rfl (by decide) rfl ?_
  refine run_end (z := false) fun K' hK' => hK' _ _ _ (hK _ _ _ ?_)
  clear hK' K' hK K
  refine vc_seq ?_
  refine vc_regD [] (by kernel_rfl) (by kernel_rfl) fun K hK => ?_
  refine runD_n (z := false) 4 (fun K' hK' => hK' _ _ _ _ ?_) (by decide)
  clear hK' K'
  refine runD_rd (vex_ldr rc_len (j := 2) (i := i) (d := frc r.n r.w) rfl rfl rfl rfl rfl ha1 (by decide) rfl) rfl rfl ?_
  refine runD_n (z := false) 1 (fun K' hK' => hK' _ _ _ _ ?_) (by decide)
  clear hK' K'
  refine runD_call (p61y hr hw h) rfl rfl rfl rfl ?_
  refine runD_n (z := false) 5 (fun K' hK' => hK' _ _ _ _ ?_) (by decide)
  clear hK' K'
  refine runD_set (vex_str (j := 2) (cs := frc (sc r.n w r.w true) w) (r2 := { r with each := m, n := (sc r.n w r.w true), w := w }) rfl rfl rfl rfl rfl rfl rfl ha1 (Nat.le_of_ble_eq_true rfl) (Nat.le_of_ble_eq_true rfl) rfl) rfl (by decide) rfl rfl ?_
  refine runD_end (z := false) fun K' hK' => hK' _ _ _ _ (hK _ _ _ ?_)
  clear hK' K' hK K
  refine vc_seq ?_
  refine vc_go (by kernel_rfl) fun K hK => hK _ _ _ ?_
  clear hK K
  refine vc_ret ⟨.inr rfl, ?_⟩
  exact res_of 200 _ _ ⟨rfl, rfl⟩ (Nat.le_of_ble_eq_true rfl) rfl rfl ⟨sbu_eq (plainL_append (rcs_plain _) hsp) rfl (by rw [List.set_set]), trivial⟩ (bdH_c (by decide) (plainL_append (rcs_plain _) hsp) rfl) rfl (.inr (Nat.le_of_ble_eq_true rfl))

theorem p112r {l : List Rn} {sp : List Value} {i : Nat} {r : Rn} (ha : l[i]? = some r) (hsp : plainL sp = true) {m : Int} {w : Nat} (hr : rt r.n r.w = true) (hw : wt w = true) (h : ¬ sc r.n w r.w true < 2 ^ 100) : FC 112 [.pointer (some ⟨0, i * 5, none⟩), .pointer (some ⟨1, 0, none⟩), .pointer (some ⟨2, 0, none⟩)] 3 [(0, .cells (rws rc l ++ sp) 67 true), (1, .cells [.int .i64 m] 3 false), (2, .cells [u64 w] 22 false)] (fun v u => v = .int .i64 (fWeigh m w r).1 ∧ u = [(0, .cells (rws rc (l.set i (fWeigh m w r).2) ++ sp) 67 true)]) := by
  have hf : fWeigh m w r = (131, { r with each := m, n := 0, w := 0 }) := by rw [fWeigh, if_neg (by rw [hr]; simp), if_neg (by rw [hw]; simp), if_neg h]
  rw [hf]
  have ha1 : (l.set i { r with each := m })[i]? = some { r with each := m } := by simp [(List.getElem?_eq_some_iff.1 ha).1]
  refine fc_of [(0, .cells (rws rc l ++ sp) 67 true), (1, .cells [.int .i64 m] 3 false), (2, .cells [u64 w] 22 false)] 3 Try.func112 rfl Try.ntmps112 (by kernel_rfl) (by simp) rfl (bdH_c (by decide) (plainL_append (rcs_plain l) hsp) (bdH_b (by decide) rfl (bdH_b (by decide) rfl rfl))) (hall_of rfl) ?_
  refine vc_seq ?_
  refine vc_go (by kernel_rfl) fun K hK => hK _ _ _ ?_
  clear hK K
  refine vc_seq ?_
  refine vc_reg (by kernel_rfl) fun K hK => ?_
  refine run_n (z := false) 4 (fun K' hK' => hK' _ _ _ ?_) (by decide)
  clear hK' K'
  refine run_set (vex_stc (j := 1) (r2 := { r with each := m }) rfl rfl rfl rfl rfl rfl rfl (by intro a h; cases h) ha (by decide) rfl) rfl (by decide) rfl ?_
  refine run_end (z := false) fun K' hK' => hK' _ _ _ (hK _ _ _ ?_)
  clear hK' K' hK K
  refine vc_seq ?_
  refine vc_regD [] (by kernel_rfl) (by kernel_rfl) fun K hK => ?_
  refine runD_n (z := false) 4 (fun K' hK' => hK' _ _ _ _ ?_) (by decide)
  clear hK' K'
  refine runD_rd (vex_ldr rc_len (j := 2) (i := i) (d := frc r.n r.w) rfl rfl rfl rfl rfl ha1 (by decide) rfl) rfl rfl ?_
  refine runD_n (z := false) 1 (fun K' hK' => hK' _ _ _ _ ?_) (by decide)
  clear hK' K'
  refine runD_call (p61r hr hw h) rfl rfl rfl rfl ?_
  refine runD_n (z := false) 5 (fun K' hK' => hK' _ _ _ _ ?_) (by decide)
  clear hK' K'
  refine runD_set (vex_str (j := 2) (cs := frc 0 0) (r2 := { r with each := m, n := 0, w := 0 }) rfl rfl rfl rfl rfl rfl rfl ha1 (Nat.le_of_ble_eq_true rfl) (Nat.le_of_ble_eq_true rfl) rfl) rfl (by decide) rfl rfl ?_
  refine runD_end (z := false) fun K' hK' => hK' _ _ _ _ (hK _ _ _ ?_)
  clear hK' K' hK K
  refine vc_seq ?_
  refine vc_go (by kernel_rfl) fun K hK => hK _ _ _ ?_
  clear hK K
  refine vc_ret ⟨.inr rfl, ?_⟩
  exact res_of 200 _ _ ⟨rfl, rfl⟩ (Nat.le_of_ble_eq_true rfl) rfl rfl ⟨sbu_eq (plainL_append (rcs_plain _) hsp) rfl (by rw [List.set_set]), trivial⟩ (bdH_c (by decide) (plainL_append (rcs_plain _) hsp) rfl) rfl (.inr (Nat.le_of_ble_eq_true rfl))

theorem p112 {l : List Rn} {sp : List Value} {i : Nat} {r : Rn} (ha : l[i]? = some r) (hsp : plainL sp = true) {m : Int} {w : Nat} : FC 112 [.pointer (some ⟨0, i * 5, none⟩), .pointer (some ⟨1, 0, none⟩), .pointer (some ⟨2, 0, none⟩)] 3 [(0, .cells (rws rc l ++ sp) 67 true), (1, .cells [.int .i64 m] 3 false), (2, .cells [u64 w] 22 false)] (fun v u => v = .int .i64 (fWeigh m w r).1 ∧ u = [(0, .cells (rws rc (l.set i (fWeigh m w r).2) ++ sp) 67 true)]) := by
  cases hr : rt r.n r.w
  · exact p112n ha hsp hr
  cases hw : wt w
  · exact p112w ha hsp hr hw
  · by_cases h : sc r.n w r.w true < 2 ^ 100
    · exact p112y ha hsp hr hw h
    · exact p112r ha hsp hr hw h

end Go.Proofs.Ytdfkcijholopoaa.Vm
namespace Go.Proofs.Ytdfkcijholopoaa.Vm
open Go Go.RowKit
set_option maxRecDepth 10000
set_option linter.unusedSimpArgs false
set_option linter.unusedVariables false


/-- One runner after another, until one may not. -/
def altL (f : Rn → Int × Rn) : List Nat → List Rn → Int → Int × List Rn
  | [], l, e => (e, l)
  | i :: is, l, e => if e ≠ 0 then (e, l) else altL f is (l.set i (f (l.getD i default)).2) (f (l.getD i default)).1
def pls (l : List Rn) (ids : List Int) : List Nat := ids.map (atI l)
def alR (ok : Bool) (f : Rn → Int × Rn) (l : List Rn) (ids : List Int) : Int × List Rn :=
  if ok = false then (2, l) else if idsOk 0 ids = false then (2, l) else if plE l ids ≠ 0 then (4, l) else altL f (pls l ids) l 0
theorem altL_stop {f : Rn → Int × Rn} {is : List Nat} {l : List Rn} {e : Int} (h : e ≠ 0) : altL f is l e = (e, l) := by
  cases is with
  | nil => rfl
  | cons i is => rw [altL, if_pos h]
theorem altL_step {f : Rn → Int × Rn} {i : Nat} {is : List Nat} {l : List Rn} {r : Rn} (h : l[i]? = some r) : altL f (i :: is) l 0 = altL f is (l.set i (f r).2) (f r).1 := by
  rw [altL, if_neg (by simp), List.getD_eq_getElem?_getD, h]
  rfl
theorem plQ_get {l : List Rn} {ids : List Int} {j : Nat} {x : Int} (h : ids[j]? = some x) : (plQ l ids)[j]? = some ((atI l x : Nat) : Int) := by rw [plQ, List.getElem?_map, h]; rfl
theorem pls_get {l : List Rn} {ids : List Int} {j : Nat} {x : Int} (h : ids[j]? = some x) : (pls l ids)[j]? = some (atI l x) := by rw [pls, List.getElem?_map, h]; rfl
theorem plE_four {l : List Rn} {ids : List Int} (h : plE l ids ≠ 0) : plE l ids = 4 := by
  unfold plE at *
  split
  · rename_i h1; rw [if_pos h1] at h; exact absurd rfl h
  · rfl
theorem plE_found {l : List Rn} {ids : List Int} (h : plE l ids = 0) {x : Int} (hx : x ∈ ids) : atB l x = true := by
  unfold plE at h
  split at h
  · rename_i h1; exact List.all_eq_true.1 h1 x hx
  · cases h


theorem p127z : FC 127 [.pointer (some ⟨0, 0, none⟩), .slice none 0 0] 1 [(0, .cells [] 55 false)] (fun v u => v = .tuple #[.slice none 0 0, .int .i64 0] ∧ u = []) := by
  refine fc_of [(0, .cells [] 55 false)] 1 Try.func127 rfl Try.ntmps127 (by kernel_rfl) (by simp) rfl rfl (hall_of rfl) ?_
  refine vc_seq ?_
  refine vc_go (by kernel_rfl) fun K hK => hK _ _ _ ?_
  clear hK K
  refine vc_seq ?_
  refine vc_go (by kernel_rfl) fun K hK => hK _ _ _ ?_
  clear hK K
  refine vc_seq ?_
  refine vc_go (by kernel_rfl) fun K hK => hK _ _ _ ?_
  clear hK K
  refine vc_seq ?_
  refine vc_seq ?_
  refine vc_go (by kernel_rfl) fun K hK => hK _ _ _ ?_
  clear hK K
  refine vc_block ?_
  refine vc_rounds 1 ?_
  refine vc_seq ?_
  refine vc_go (by kernel_rfl) fun K hK => hK _ _ _ ?_
  clear hK K
  refine vc_seq ?_
  refine vc_cond (t := false) rfl (fun h => by cases h) (fun _ => ?_)
  refine vc_exit ?_
  refine vc_seq ?_
  refine vc_go (by kernel_rfl) fun K hK => hK _ _ _ ?_
  clear hK K
  refine vc_ret ⟨.inr rfl, ?_⟩
  exact res_plain ⟨rfl, rfl⟩ rfl rfl rfl

theorem p126f1z {l : List Rn} {ids : List Int} {g c mc : Nat} {sp : List Value} {f : Rn → Int × Rn} {cv1 : Value} {ct1 : Nat} (hcv1 : plain cv1 = true) (hl : l.length ≤ 900) (hm : ids.length ≤ 900) (hc : l.length ≤ c) (hsp : plainL sp = true) (hnil : ids = []) : FC 126 [.pointer (some ⟨0, 0, none⟩), .pointer (some ⟨2, 0, none⟩), .pointer (some ⟨3, 0, none⟩), .pointer (some ⟨4, 0, none⟩)] 7 [(0, .cells [.slice (some ⟨1, 0, none⟩) l.length c] 55 true), (1, .cells (rws rc l ++ sp) 67 true), (2, .cells [.bool false] 4 false), (3, .cells [.slice none 0 0] 61 false), (4, .cells [.func (.func g) #[] #[.pointer (some ⟨6, 0, none⟩)]] 152 false), (5, .cells (rws ic ids) 3 false), (6, .cells [cv1] ct1 false)] (fun v u => v = .int .i64 (alR false f l ids).1 ∧ u = [(0, .cells [.slice (some ⟨1, 0, none⟩) l.length c] 55 true), (1, .cells (rws rc (alR false f l ids).2 ++ sp) 67 true)]) := by
  have ha : alR false f l ids = (2, l) := rfl
  rw [ha]
  refine fc_of [(0, .cells [.slice (some ⟨1, 0, none⟩) l.length c] 55 true), (1, .cells (rws rc l ++ sp) 67 true), (2, .cells [.bool false] 4 false), (3, .cells [.slice none 0 0] 61 false), (4, .cells [.func (.func g) #[] #[.pointer (some ⟨6, 0, none⟩)]] 152 false), (5, .cells (rws ic ids) 3 false), (6, .cells [cv1] ct1 false)] 7 Try.func126 rfl Try.ntmps126 (by kernel_rfl) (by simp) rfl (bdH_b (by decide) rfl (bdH_c (by decide) (plainL_append (rcs_plain l) hsp) (bdH_b (by decide) rfl (bdH_b (by decide) rfl (bdH_b (by decide) rfl (bdH_c (by decide) (ics_plain ids) (bdH_b (by decide) (by simp [bdB, bdL, bdV_plain _ _ hcv1]) rfl))))))) (hall_of rfl) ?_
  refine vc_seq ?_
  refine vc_go (by kernel_rfl) fun K hK => hK _ _ _ ?_
  clear hK K
  refine vc_seq ?_
  refine vc_seq ?_
  refine vc_go (by kernel_rfl) fun K hK => hK _ _ _ ?_
  clear hK K
  refine vc_cond (t := true) rfl (fun _ => ?_) (fun h => by cases h)
  refine vc_seq ?_
  refine vc_go (by kernel_rfl) fun K hK => hK _ _ _ ?_
  clear hK K
  refine vc_ret ⟨.inr rfl, ?_⟩
  exact res_of 200 _ _ ⟨rfl, rfl⟩ (Nat.le_of_ble_eq_true rfl) rfl rfl ⟨sbu' rfl, sbu (plainL_append (rcs_plain l) hsp) rfl, trivial⟩ (bdH_b (by decide) rfl (bdH_c (by decide) (plainL_append (rcs_plain l) hsp) rfl)) rfl (.inr (Nat.le_of_ble_eq_true rfl))

theorem p126t1z {l : List Rn} {ids : List Int} {g c mc : Nat} {sp : List Value} {f : Rn → Int × Rn} {cv1 : Value} {ct1 : Nat} (hcv1 : plain cv1 = true) (hl : l.length ≤ 900) (hm : ids.length ≤ 900) (hc : l.length ≤ c) (hsp : plainL sp = true) (hnil : ids = []) : FC 126 [.pointer (some ⟨0, 0, none⟩), .pointer (some ⟨2, 0, none⟩), .pointer (some ⟨3, 0, none⟩), .pointer (some ⟨4, 0, none⟩)] 7 [(0, .cells [.slice (some ⟨1, 0, none⟩) l.length c] 55 true), (1, .cells (rws rc l ++ sp) 67 true), (2, .cells [.bool true] 4 false), (3, .cells [.slice none 0 0] 61 false), (4, .cells [.func (.func g) #[] #[.pointer (some ⟨6, 0, none⟩)]] 152 false), (5, .cells (rws ic ids) 3 false), (6, .cells [cv1] ct1 false)] (fun v u => v = .int .i64 (alR true f l ids).1 ∧ u = [(0, .cells [.slice (some ⟨1, 0, none⟩) l.length c] 55 true), (1, .cells (rws rc (alR true f l ids).2 ++ sp) 67 true)]) := by
  have ha : alR true f l ids = (0, l) := by rw [hnil]; rfl
  rw [ha]
  refine fc_of [(0, .cells [.slice (some ⟨1, 0, none⟩) l.length c] 55 true), (1, .cells (rws rc l ++ sp) 67 true), (2, .cells [.bool true] 4 false), (3, .cells [.slice none 0 0] 61 false), (4, .cells [.func (.func g) #[] #[.pointer (some ⟨6, 0, none⟩)]] 152 false), (5, .cells (rws ic ids) 3 false), (6, .cells [cv1] ct1 false)] 7 Try.func126 rfl Try.ntmps126 (by kernel_rfl) (by simp) rfl (bdH_b (by decide) rfl (bdH_c (by decide) (plainL_append (rcs_plain l) hsp) (bdH_b (by decide) rfl (bdH_b (by decide) rfl (bdH_b (by decide) rfl (bdH_c (by decide) (ics_plain ids) (bdH_b (by decide) (by simp [bdB, bdL, bdV_plain _ _ hcv1]) rfl))))))) (hall_of rfl) ?_
  refine vc_seq ?_
  refine vc_go (by kernel_rfl) fun K hK => hK _ _ _ ?_
  clear hK K
  refine vc_seq ?_
  refine vc_seq ?_
  refine vc_go (by kernel_rfl) fun K hK => hK _ _ _ ?_
  clear hK K
  refine vc_cond (t := false) rfl (fun h => by cases h) (fun _ => ?_)
  refine vc_skip ?_
  refine vc_seq ?_
  refine vc_reg (by kernel_rfl) fun K hK => ?_
  refine run_n (z := false) 2 (fun K' hK' => hK' _ _ _ ?_) (by decide)
  clear hK' K'
  refine run_fc (fun k => (k, 0)) p127z (hasF ⟨sf_winp rfl rfl (fun i v h => by simp at h), trivial⟩ rfl) rfl rfl rfl rfl ⟨_, _, rfl, rfl⟩ ?_
  rintro _ _ ⟨rfl, rfl⟩
  refine run_end (z := false) fun K' hK' => hK' _ _ _ (hK _ _ _ ?_)
  clear hK' K' hK K
  refine vc_seq ?_
  refine vc_seq ?_
  refine vc_go (by kernel_rfl) fun K hK => hK _ _ _ ?_
  clear hK K
  refine vc_block ?_
  refine vc_rounds 1 ?_
  refine vc_seq ?_
  refine vc_go (by kernel_rfl) fun K hK => hK _ _ _ ?_
  clear hK K
  refine vc_seq ?_
  refine vc_cond (t := false) rfl (fun h => by cases h) (fun _ => ?_)
  refine vc_exit ?_
  refine vc_seq ?_
  refine vc_go (by kernel_rfl) fun K hK => hK _ _ _ ?_
  clear hK K
  refine vc_ret ⟨.inr rfl, ?_⟩
  exact res_of 200 _ _ ⟨rfl, rfl⟩ (Nat.le_of_ble_eq_true rfl) rfl rfl ⟨sbu' rfl, sbu (plainL_append (rcs_plain l) hsp) rfl, trivial⟩ (bdH_b (by decide) rfl (bdH_c (by decide) (plainL_append (rcs_plain l) hsp) rfl)) rfl (.inr (Nat.le_of_ble_eq_true rfl))

theorem p126f1 {l : List Rn} {ids : List Int} {g c mc : Nat} {sp : List Value} {f : Rn → Int × Rn} {cv1 : Value} {ct1 : Nat} (hcv1 : plain cv1 = true) (hl : l.length ≤ 900) (hm : ids.length ≤ 900) (hc : l.length ≤ c) (hsp : plainL sp = true) : FC 126 [.pointer (some ⟨0, 0, none⟩), .pointer (some ⟨2, 0, none⟩), .pointer (some ⟨3, 0, none⟩), .pointer (some ⟨4, 0, none⟩)] 7 [(0, .cells [.slice (some ⟨1, 0, none⟩) l.length c] 55 true), (1, .cells (rws rc l ++ sp) 67 true), (2, .cells [.bool false] 4 false), (3, .cells [.slice (some ⟨5, 0, none⟩) ids.length mc] 61 false), (4, .cells [.func (.func g) #[] #[.pointer (some ⟨6, 0, none⟩)]] 152 false), (5, .cells (rws ic ids) 3 false), (6, .cells [cv1] ct1 false)] (fun v u => v = .int .i64 (alR false f l ids).1 ∧ u = [(0, .cells [.slice (some ⟨1, 0, none⟩) l.length c] 55 true), (1, .cells (rws rc (alR false f l ids).2 ++ sp) 67 true)]) := by
  have ha : alR false f l ids = (2, l) := rfl
  rw [ha]
  refine fc_of [(0, .cells [.slice (some ⟨1, 0, none⟩) l.length c] 55 true), (1, .cells (rws rc l ++ sp) 67 true), (2, .cells [.bool false] 4 false), (3, .cells [.slice (some ⟨5, 0, none⟩) ids.length mc] 61 false), (4, .cells [.func (.func g) #[] #[.pointer (some ⟨6, 0, none⟩)]] 152 false), (5, .cells (rws ic ids) 3 false), (6, .cells [cv1] ct1 false)] 7 Try.func126 rfl Try.ntmps126 (by kernel_rfl) (by simp) rfl (bdH_b (by decide) rfl (bdH_c (by decide) (plainL_append (rcs_plain l) hsp) (bdH_b (by decide) rfl (bdH_b (by decide) rfl (bdH_b (by decide) rfl (bdH_c (by decide) (ics_plain ids) (bdH_b (by decide) (by simp [bdB, bdL, bdV_plain _ _ hcv1]) rfl))))))) (hall_of rfl) ?_
  refine vc_seq ?_
  refine vc_go (by kernel_rfl) fun K hK => hK _ _ _ ?_
  clear hK K
  refine vc_seq ?_
  refine vc_seq ?_
  refine vc_go (by kernel_rfl) fun K hK => hK _ _ _ ?_
  clear hK K
  refine vc_cond (t := true) rfl (fun _ => ?_) (fun h => by cases h)
  refine vc_seq ?_
  refine vc_go (by kernel_rfl) fun K hK => hK _ _ _ ?_
  clear hK K
  refine vc_ret ⟨.inr rfl, ?_⟩
  exact res_of 200 _ _ ⟨rfl, rfl⟩ (Nat.le_of_ble_eq_true rfl) rfl rfl ⟨sbu' rfl, sbu (plainL_append (rcs_plain l) hsp) rfl, trivial⟩ (bdH_b (by decide) rfl (bdH_c (by decide) (plainL_append (rcs_plain l) hsp) rfl)) rfl (.inr (Nat.le_of_ble_eq_true rfl))

theorem p126t1 {l : List Rn} {ids : List Int} {g c mc : Nat} {sp : List Value} {f : Rn → Int × Rn} {cv1 : Value} {ct1 : Nat} (hcv1 : plain cv1 = true) (hl : l.length ≤ 900) (hm : ids.length ≤ 900) (hc : l.length ≤ c) (hsp : plainL sp = true) (hdo : ∀ (lc : List Rn) (i : Nat) (r : Rn), lc[i]? = some r → FC g [.pointer (some ⟨0, i * 5, none⟩), .pointer (some ⟨1, 0, none⟩)] 2 [(0, .cells (rws rc lc ++ sp) 67 true), (1, .cells [cv1] ct1 false)] (fun v u => v = .int .i64 (f r).1 ∧ u = [(0, .cells (rws rc (lc.set i (f r).2) ++ sp) 67 true)])) : FC 126 [.pointer (some ⟨0, 0, none⟩), .pointer (some ⟨2, 0, none⟩), .pointer (some ⟨3, 0, none⟩), .pointer (some ⟨4, 0, none⟩)] 7 [(0, .cells [.slice (some ⟨1, 0, none⟩) l.length c] 55 true), (1, .cells (rws rc l ++ sp) 67 true), (2, .cells [.bool true] 4 false), (3, .cells [.slice (some ⟨5, 0, none⟩) ids.length mc] 61 false), (4, .cells [.func (.func g) #[] #[.pointer (some ⟨6, 0, none⟩)]] 152 false), (5, .cells (rws ic ids) 3 false), (6, .cells [cv1] ct1 false)] (fun v u => v = .int .i64 (alR true f l ids).1 ∧ u = [(0, .cells [.slice (some ⟨1, 0, none⟩) l.length c] 55 true), (1, .cells (rws rc (alR true f l ids).2 ++ sp) 67 true)]) := by
  have h127ne : ∃ v u, (idsOk 0 ids = false ∧ v = Value.tuple #[.slice none 0 0, .int .i64 2] ∧ u = []) ∨ (ids = [] ∧ v = .tuple #[.slice none 0 0, .int .i64 0] ∧ u = []) ∨ (idsOk 0 ids = true ∧ 0 < ids.length ∧ ∃ cap sp, plainL sp = true ∧ v = .tuple #[.slice (some ⟨3, 0, none⟩) ids.length cap, .int .i64 (plE l ids)] ∧ u = [(3, Blk.cells (rws ic (plQ l ids) ++ sp) 3 true)]) := by
    cases h1 : idsOk 0 ids
    · exact ⟨_, _, .inl ⟨rfl, rfl, rfl⟩⟩
    · rcases Nat.eq_zero_or_pos ids.length with h2 | h2
      · exact ⟨_, _, .inr (.inl ⟨nil_of h2, rfl, rfl⟩)⟩
      · exact ⟨_, _, .inr (.inr ⟨rfl, h2, 0, [], rfl, rfl, rfl⟩)⟩
  refine fc_of [(0, .cells [.slice (some ⟨1, 0, none⟩) l.length c] 55 true), (1, .cells (rws rc l ++ sp) 67 true), (2, .cells [.bool true] 4 false), (3, .cells [.slice (some ⟨5, 0, none⟩) ids.length mc] 61 false), (4, .cells [.func (.func g) #[] #[.pointer (some ⟨6, 0, none⟩)]] 152 false), (5, .cells (rws ic ids) 3 false), (6, .cells [cv1] ct1 false)] 7 Try.func126 rfl Try.ntmps126 (by kernel_rfl) (by simp) rfl (bdH_b (by decide) rfl (bdH_c (by decide) (plainL_append (rcs_plain l) hsp) (bdH_b (by decide) rfl (bdH_b (by decide) rfl (bdH_b (by decide) rfl (bdH_c (by decide) (ics_plain ids) (bdH_b (by decide) (by simp [bdB, bdL, bdV_plain _ _ hcv1]) rfl))))))) (hall_of rfl) ?_
  refine vc_seq ?_
  refine vc_go (by kernel_rfl) fun K hK => hK _ _ _ ?_
  clear hK K
  refine vc_seq ?_
  refine vc_seq ?_
  refine vc_go (by kernel_rfl) fun K hK => hK _ _ _ ?_
  clear hK K
  refine vc_cond (t := false) rfl (fun h => by cases h) (fun _ => ?_)
  refine vc_skip ?_
  refine vc_seq ?_
  refine vc_reg (by kernel_rfl) fun K hK => ?_
  refine run_n (z := false) 2 (fun K' hK' => hK' _ _ _ ?_) (by decide)
  clear hK' K'
  refine run_fc (fun k => if k = 2 then (5, 0) else (k, 0)) (p127 (l := l) (ids := ids) (c := c) (mc := mc) hl hm) (hasF ⟨sf_win1 rfl rfl rfl, sf_winp (rcs_plain l) rfl get_zero_app, sf_winp (ics_plain ids) rfl get_zero, trivial⟩ rfl) rfl rfl rfl rfl h127ne ?_
  rintro _ _ (⟨hid, rfl, rfl⟩ | ⟨hid, rfl, rfl⟩ | ⟨hid, hpos, cap, sp9, hsp9, rfl, rfl⟩)
  · have ha : alR true f l ids = (2, l) := by simp [alR, hid]
    refine run_end (z := false) fun K' hK' => hK' _ _ _ (hK _ _ _ ?_)
    clear hK' K' hK K
    refine vc_seq ?_
    refine vc_seq ?_
    refine vc_go (by kernel_rfl) fun K hK => hK _ _ _ ?_
    clear hK K
    refine vc_block ?_
    refine vc_rounds 1 ?_
    refine vc_seq ?_
    refine vc_go (by kernel_rfl) fun K hK => hK _ _ _ ?_
    clear hK K
    refine vc_seq ?_
    refine vc_cond (t := false) rfl (fun h => by cases h) (fun _ => ?_)
    refine vc_exit ?_
    refine vc_seq ?_
    refine vc_go (by kernel_rfl) fun K hK => hK _ _ _ ?_
    clear hK K
    refine vc_ret ⟨.inr rfl, ?_⟩
    rw [ha]
    exact res_of 200 _ _ ⟨rfl, rfl⟩ (Nat.le_of_ble_eq_true rfl) rfl rfl ⟨sbu' rfl, sbu (plainL_append (rcs_plain l) hsp) rfl, trivial⟩ (bdH_b (by decide) rfl (bdH_c (by decide) (plainL_append (rcs_plain l) hsp) rfl)) rfl (.inr (Nat.le_of_ble_eq_true rfl))
  · have ha : alR true f l ids = (0, l) := by rw [hid]; rfl
    refine run_end (z := false) fun K' hK' => hK' _ _ _ (hK _ _ _ ?_)
    clear hK' K' hK K
    refine vc_seq ?_
    refine vc_seq ?_
    refine vc_go (by kernel_rfl) fun K hK => hK _ _ _ ?_
    clear hK K
    refine vc_block ?_
    refine vc_rounds 1 ?_
    refine vc_seq ?_
    refine vc_go (by kernel_rfl) fun K hK => hK _ _ _ ?_
    clear hK K
    refine vc_seq ?_
    refine vc_cond (t := false) rfl (fun h => by cases h) (fun _ => ?_)
    refine vc_exit ?_
    refine vc_seq ?_
    refine vc_go (by kernel_rfl) fun K hK => hK _ _ _ ?_
    clear hK K
    refine vc_ret ⟨.inr rfl, ?_⟩
    rw [ha]
    exact res_of 200 _ _ ⟨rfl, rfl⟩ (Nat.le_of_ble_eq_true rfl) rfl rfl ⟨sbu' rfl, sbu (plainL_append (rcs_plain l) hsp) rfl, trivial⟩ (bdH_b (by decide) rfl (bdH_c (by decide) (plainL_append (rcs_plain l) hsp) rfl)) rfl (.inr (Nat.le_of_ble_eq_true rfl))
  · rw [renU_c (renB_p (plainL_append (ics_plain _) hsp9)) renU_nil]
    by_cases h4 : plE l ids = 0
    rotate_left
    · have h4e := plE_four h4
      have ha : alR true f l ids = (4, l) := by simp [alR, hid, h4]
      rw [h4e]
      obtain ⟨x, hx⟩ : ∃ x, ids[0]? = some x := ⟨ids[0], List.getElem?_eq_getElem hpos⟩
      refine run_end (z := false) fun K' hK' => hK' _ _ _ (hK _ _ _ ?_)
      clear hK' K' hK K
      refine vc_seq ?_
      refine vc_seq ?_
      refine vc_go (by kernel_rfl) fun K hK => hK _ _ _ ?_
      clear hK K
      refine vc_block ?_
      refine vc_rounds 1 ?_
      refine vc_seq ?_
      refine vc_go (by kernel_rfl) fun K hK => hK _ _ _ ?_
      clear hK K
      refine vc_seq ?_
      refine vc_cond (t := true) (bb (by rw [decide_eq_true_eq]; exact Int.ofNat_lt.2 hpos)) (fun _ => ?_) (fun h => by cases h)
      refine vc_skip ?_
      refine vc_seq ?_
      refine vc_block ?_
      refine vc_seq ?_
      refine vc_reg (by kernel_rfl) fun K hK => ?_
      refine run_op (vex_ixs (j := 0) rfl rfl rfl hpos rfl rfl) rfl ?_
      refine run_rd (vex_ldc ic_len (j := 0) (i := 0) rfl rfl rfl rfl rfl (plQ_get hx) (by decide) rfl) rfl ?_
      refine run_end (z := false) fun K' hK' => hK' _ _ _ (hK _ _ _ ?_)
      clear hK' K' hK K
      refine vc_seq ?_
      refine vc_seq ?_
      refine vc_go (by kernel_rfl) fun K hK => hK _ _ _ ?_
      clear hK K
      refine vc_cond (t := true) rfl (fun _ => ?_) (fun h => by cases h)
      refine vc_exit ?_
      refine vc_seq ?_
      refine vc_go (by kernel_rfl) fun K hK => hK _ _ _ ?_
      clear hK K
      refine vc_ret ⟨.inr rfl, ?_⟩
      rw [ha]
      exact res_of 200 _ _ ⟨rfl, rfl⟩ (Nat.le_of_ble_eq_true rfl) rfl rfl ⟨sbu' rfl, sbu (plainL_append (rcs_plain l) hsp) rfl, trivial⟩ (bdH_b (by decide) rfl (bdH_c (by decide) (plainL_append (rcs_plain l) hsp) rfl)) rfl (.inr (Nat.le_of_ble_eq_true rfl))
    · have ha : alR true f l ids = altL f (pls l ids) l 0 := by simp [alR, hid, h4]
      refine run_end (z := false) fun K' hK' => hK' _ _ _ (hK _ _ _ ?_)
      clear hK' K' hK K
      refine vc_seq ?_
      refine vc_seq ?_
      refine vc_go (by kernel_rfl) fun K hK => hK _ _ _ ?_
      clear hK K
      refine vc_block ?_
      refine vc_loopF (fun n s => ∃ (j : Nat) (lc : List Rn) (e : Int), n = ids.length - j ∧ j ≤ ids.length ∧ lc.length = l.length ∧ altL f ((pls l ids).drop j) lc e = altL f (pls l ids) l 0 ∧ s = can [(0, .pointer (some ⟨0, 0, none⟩)), (3, .pointer (some ⟨4, 0, none⟩)), (5, .int .i64 0), (7, .int .i64 e), (18, .slice (some ⟨9, 0, none⟩) ids.length cap), (19, .int .i64 (ids.length : Int)), (20, .int .i64 ((j : Nat) : Int))] [(0, .cells [.slice (some ⟨1, 0, none⟩) l.length c] 55 true), (1, .cells (rws rc lc ++ sp) 67 true), (2, .cells [.bool true] 4 false), (3, .cells [.slice (some ⟨5, 0, none⟩) ids.length mc] 61 false), (4, .cells [.func (.func g) #[] #[.pointer (some ⟨6, 0, none⟩)]] 152 false), (5, .cells (rws ic ids) 3 false), (6, .cells [cv1] ct1 false), (9, .cells (rws ic (plQ l ids) ++ sp9) 3 true)] 10) ids.length ?_ ?_
      · exact ⟨_, fg_focus [(0, .pointer (some ⟨0, 0, none⟩)), (3, .pointer (some ⟨4, 0, none⟩)), (5, .int .i64 0), (7, .int .i64 0), (18, .slice (some ⟨9, 0, none⟩) ids.length cap), (19, .int .i64 (ids.length : Int)), (20, .int .i64 ((0 : Nat) : Int))] [(0, .cells [.slice (some ⟨1, 0, none⟩) l.length c] 55 true), (1, .cells (rws rc l ++ sp) 67 true), (2, .cells [.bool true] 4 false), (3, .cells [.slice (some ⟨5, 0, none⟩) ids.length mc] 61 false), (4, .cells [.func (.func g) #[] #[.pointer (some ⟨6, 0, none⟩)]] 152 false), (5, .cells (rws ic ids) 3 false), (6, .cells [cv1] ct1 false), (9, .cells (rws ic (plQ l ids) ++ sp9) 3 true)] 10 (by decide) ⟨rfl, rfl, rfl, ii h4, rfl, rfl, rfl, trivial⟩ ⟨sb rfl, sb rfl, sb rfl, sb rfl, sb rfl, sb rfl, sb rfl, sb rfl, trivial⟩ rfl (bdH_b (by decide) rfl (bdH_c (by decide) (plainL_append (rcs_plain l) hsp) (bdH_b (by decide) rfl (bdH_b (by decide) rfl (bdH_b (by decide) rfl (bdH_c (by decide) (ics_plain ids) (bdH_b (by decide) (by simp [bdB, bdL, bdV_plain _ _ hcv1]) (bdH_c (by decide) (plainL_append (ics_plain _) hsp9) rfl)))))))), 0, l, 0, rfl, Nat.zero_le _, rfl, rfl, rfl⟩
      · rintro n s ⟨j, lc, e, hn, hj, hlc, halt, rfl⟩
        refine vc_seq ?_
        refine vc_go (by kernel_rfl) fun K hK => hK _ _ _ ?_
        clear hK K
        refine vc_seq ?_
        refine vc_cond rfl (fun c0 => ?_) (fun c0 => ?_)
        · -- cond 1 t21 true
          refine vc_skip ?_
          refine vc_seq ?_
          refine vc_block ?_
          refine vc_seq ?_
          have hlt := len_le c0
          obtain ⟨x, hx⟩ : ∃ x, ids[j]? = some x := ⟨ids[j], List.getElem?_eq_getElem hlt⟩
          have hxb := plE_found h4 (List.mem_of_getElem? hx)
          obtain ⟨a0, ha0, hai⟩ := atB_get hxb
          obtain ⟨r, hr⟩ : ∃ r, lc[atI l x]? = some r := ⟨lc[atI l x]'(by omega), List.getElem?_eq_getElem (by omega)⟩
          refine vc_reg (by kernel_rfl) fun K hK => ?_
          refine run_op (vex_ixs (j := j) rfl rfl rfl hlt rfl rfl) rfl ?_
          refine run_rd (vex_ldc ic_len (j := 0) (i := j) rfl (Nat.zero_add _) rfl rfl rfl (plQ_get hx) (by decide) rfl) rfl ?_
          refine run_end (z := false) fun K' hK' => hK' _ _ _ (hK _ _ _ ?_)
          clear hK' K' hK K
          refine vc_seq ?_
          refine vc_seq ?_
          refine vc_go (by kernel_rfl) fun K hK => hK _ _ _ ?_
          clear hK K
          refine vc_cond rfl (fun he0 => ?_) (fun he0 => ?_)
          · -- cond 2 t25 true
            refine vc_exit ?_
            refine vc_seq ?_
            refine vc_go (by kernel_rfl) fun K hK => hK _ _ _ ?_
            clear hK K
            refine vc_ret ⟨.inr rfl, ?_⟩
            have hne : e ≠ 0 := by rw [bne_iff_ne] at he0; exact he0
            rw [ha, ← halt, altL_stop hne]
            exact res_of 200 _ _ ⟨rfl, rfl⟩ (Nat.le_of_ble_eq_true rfl) rfl rfl ⟨sbu' rfl, sbu (plainL_append (rcs_plain lc) hsp) rfl, trivial⟩ (bdH_b (by decide) rfl (bdH_c (by decide) (plainL_append (rcs_plain lc) hsp) rfl)) rfl (.inr (Nat.le_of_ble_eq_true rfl))
          · -- cond 2 t25 false
            refine vc_skip ?_
            have he0 : e = 0 := by simpa using he0
            refine vc_regD [] (by kernel_rfl) (by kernel_rfl) fun K hK => ?_
            refine runD_n (z := false) 6 (fun K' hK' => hK' _ _ _ _ ?_) (by decide)
            clear hK' K'
            refine runD_op (vex_ixs (j := atI l x) rfl rfl rfl (by omega) rfl rfl) rfl ?_
            refine runD_fc (fun k => if k = 0 then (1, 0) else (k + 5, 0)) (hdo lc (atI l x) r hr) (hasF ⟨sf_ownp (plainL_append (rcs_plain lc) hsp) rfl rfl, sf_win1 rfl rfl (renV_plain _ _ hcv1).symm, trivial⟩ rfl) rfl rfl rfl rfl ⟨_, _, rfl, rfl⟩ (by rintro _ _ ⟨rfl, rfl⟩; rfl) ?_
            rintro _ _ ⟨rfl, rfl⟩
            rw [renU_c (renB_p (plainL_append (rcs_plain _) hsp)) renU_nil]
            refine runD_end (z := false) fun K' hK' => hK' _ _ _ _ (hK _ _ _ ?_)
            clear hK' K' hK K
            refine vc_go (by kernel_rfl) fun K hK => hK _ _ _ ?_
            clear hK K
            exact ⟨_, fg_focus [(0, .pointer (some ⟨0, 0, none⟩)), (3, .pointer (some ⟨4, 0, none⟩)), (5, .int .i64 0), (7, .int .i64 (f r).1), (18, .slice (some ⟨9, 0, none⟩) ids.length cap), (19, .int .i64 (ids.length : Int)), (20, .int .i64 ((j + 1 : Nat) : Int))] [(0, .cells [.slice (some ⟨1, 0, none⟩) l.length c] 55 true), (1, .cells (rws rc (lc.set (atI l x) (f r).2) ++ sp) 67 true), (2, .cells [.bool true] 4 false), (3, .cells [.slice (some ⟨5, 0, none⟩) ids.length mc] 61 false), (4, .cells [.func (.func g) #[] #[.pointer (some ⟨6, 0, none⟩)]] 152 false), (5, .cells (rws ic ids) 3 false), (6, .cells [cv1] ct1 false), (9, .cells (rws ic (plQ l ids) ++ sp9) 3 true)] 10 (by decide) ⟨rfl, rfl, rfl, rfl, rfl, rfl, ii (wrapI (by omega) (by omega)), trivial⟩ ⟨sb rfl, sb rfl, sb rfl, sb rfl, sb rfl, sb rfl, sb rfl, sb rfl, trivial⟩ rfl (bdH_b (by decide) rfl (bdH_c (by decide) (plainL_append (rcs_plain _) hsp) (bdH_b (by decide) rfl (bdH_b (by decide) rfl (bdH_b (by decide) rfl (bdH_c (by decide) (ics_plain ids) (bdH_b (by decide) (by simp [bdB, bdL, bdV_plain _ _ hcv1]) (bdH_c (by decide) (plainL_append (ics_plain _) hsp9) rfl)))))))), ids.length - (j + 1), by omega, j + 1, lc.set (atI l x) (f r).2, (f r).1, rfl, hlt, by rw [List.length_set]; exact hlc, by rw [← halt, drop_cons (pls_get hx)]; subst he0; exact (altL_step hr).symm, rfl⟩
        · -- cond 1 t21 false
          refine vc_exit ?_
          refine vc_seq ?_
          refine vc_go (by kernel_rfl) fun K hK => hK _ _ _ ?_
          clear hK K
          refine vc_ret ⟨.inr rfl, ?_⟩
          have hge := len_ge c0
          have : (pls l ids).drop j = [] := List.drop_eq_nil_of_le (by rw [pls, List.length_map]; omega)
          rw [this] at halt
          rw [ha, ← halt]
          exact res_of 200 _ _ ⟨rfl, rfl⟩ (Nat.le_of_ble_eq_true rfl) rfl rfl ⟨sbu' rfl, sbu (plainL_append (rcs_plain lc) hsp) rfl, trivial⟩ (bdH_b (by decide) rfl (bdH_c (by decide) (plainL_append (rcs_plain lc) hsp) rfl)) rfl (.inr (Nat.le_of_ble_eq_true rfl))


theorem p126f2 {l : List Rn} {ids : List Int} {g c mc : Nat} {sp : List Value} {f : Rn → Int × Rn} {cv1 cv2 : Value} {ct1 ct2 : Nat} (hcv1 : plain cv1 = true) (hcv2 : plain cv2 = true) (hl : l.length ≤ 900) (hm : ids.length ≤ 900) (hc : l.length ≤ c) (hsp : plainL sp = true) : FC 126 [.pointer (some ⟨0, 0, none⟩), .pointer (some ⟨2, 0, none⟩), .pointer (some ⟨3, 0, none⟩), .pointer (some ⟨4, 0, none⟩)] 8 [(0, .cells [.slice (some ⟨1, 0, none⟩) l.length c] 55 true), (1, .cells (rws rc l ++ sp) 67 true), (2, .cells [.bool false] 4 false), (3, .cells [.slice (some ⟨5, 0, none⟩) ids.length mc] 61 false), (4, .cells [.func (.func g) #[] #[.pointer (some ⟨6, 0, none⟩), .pointer (some ⟨7, 0, none⟩)]] 152 false), (5, .cells (rws ic ids) 3 false), (6, .cells [cv1] ct1 false), (7, .cells [cv2] ct2 false)] (fun v u => v = .int .i64 (alR false f l ids).1 ∧ u = [(0, .cells [.slice (some ⟨1, 0, none⟩) l.length c] 55 true), (1, .cells (rws rc (alR false f l ids).2 ++ sp) 67 true)]) := by
  have ha : alR false f l ids = (2, l) := rfl
  rw [ha]
  refine fc_of [(0, .cells [.slice (some ⟨1, 0, none⟩) l.length c] 55 true), (1, .cells (rws rc l ++ sp) 67 true), (2, .cells [.bool false] 4 false), (3, .cells [.slice (some ⟨5, 0, none⟩) ids.length mc] 61 false), (4, .cells [.func (.func g) #[] #[.pointer (some ⟨6, 0, none⟩), .pointer (some ⟨7, 0, none⟩)]] 152 false), (5, .cells (rws ic ids) 3 false), (6, .cells [cv1] ct1 false), (7, .cells [cv2] ct2 false)] 8 Try.func126 rfl Try.ntmps126 (by kernel_rfl) (by simp) rfl (bdH_b (by decide) rfl (bdH_c (by decide) (plainL_append (rcs_plain l) hsp) (bdH_b (by decide) rfl (bdH_b (by decide) rfl (bdH_b (by decide) rfl (bdH_c (by decide) (ics_plain ids) (bdH_b (by decide) (by simp [bdB, bdL, bdV_plain _ _ hcv1]) (bdH_b (by decide) (by simp [bdB, bdL, bdV_plain _ _ hcv2]) rfl)))))))) (hall_of rfl) ?_
  refine vc_seq ?_
  refine vc_go (by kernel_rfl) fun K hK => hK _ _ _ ?_
  clear hK K
  refine vc_seq ?_
  refine vc_seq ?_
  refine vc_go (by kernel_rfl) fun K hK => hK _ _ _ ?_
  clear hK K
  refine vc_cond (t := true) rfl (fun _ => ?_) (fun h => by cases h)
  refine vc_seq ?_
  refine vc_go (by kernel_rfl) fun K hK => hK _ _ _ ?_
  clear hK K
  refine vc_ret ⟨.inr rfl, ?_⟩
  exact res_of 200 _ _ ⟨rfl, rfl⟩ (Nat.le_of_ble_eq_true rfl) rfl rfl ⟨sbu' rfl, sbu (plainL_append (rcs_plain l) hsp) rfl, trivial⟩ (bdH_b (by decide) rfl (bdH_c (by decide) (plainL_append (rcs_plain l) hsp) rfl)) rfl (.inr (Nat.le_of_ble_eq_true rfl))

theorem p126t2 {l : List Rn} {ids : List Int} {g c mc : Nat} {sp : List Value} {f : Rn → Int × Rn} {cv1 cv2 : Value} {ct1 ct2 : Nat} (hcv1 : plain cv1 = true) (hcv2 : plain cv2 = true) (hl : l.length ≤ 900) (hm : ids.length ≤ 900) (hc : l.length ≤ c) (hsp : plainL sp = true) (hdo : ∀ (lc : List Rn) (i : Nat) (r : Rn), lc[i]? = some r → FC g [.pointer (some ⟨0, i * 5, none⟩), .pointer (some ⟨1, 0, none⟩), .pointer (some ⟨2, 0, none⟩)] 3 [(0, .cells (rws rc lc ++ sp) 67 true), (1, .cells [cv1] ct1 false), (2, .cells [cv2] ct2 false)] (fun v u => v = .int .i64 (f r).1 ∧ u = [(0, .cells (rws rc (lc.set i (f r).2) ++ sp) 67 true)])) : FC 126 [.pointer (some ⟨0, 0, none⟩), .pointer (some ⟨2, 0, none⟩), .pointer (some ⟨3, 0, none⟩), .pointer (some ⟨4, 0, none⟩)] 8 [(0, .cells [.slice (some ⟨1, 0, none⟩) l.length c] 55 true), (1, .cells (rws rc l ++ sp) 67 true), (2, .cells [.bool true] 4 false), (3, .cells [.slice (some ⟨5, 0, none⟩) ids.length mc] 61 false), (4, .cells [.func (.func g) #[] #[.pointer (some ⟨6, 0, none⟩), .pointer (some ⟨7, 0, none⟩)]] 152 false), (5, .cells (rws ic ids) 3 false), (6, .cells [cv1] ct1 false), (7, .cells [cv2] ct2 false)] (fun v u => v = .int .i64 (alR true f l ids).1 ∧ u = [(0, .cells [.slice (some ⟨1, 0, none⟩) l.length c] 55 true), (1, .cells (rws rc (alR true f l ids).2 ++ sp) 67 true)]) := by
  have h127ne : ∃ v u, (idsOk 0 ids = false ∧ v = Value.tuple #[.slice none 0 0, .int .i64 2] ∧ u = []) ∨ (ids = [] ∧ v = .tuple #[.slice none 0 0, .int .i64 0] ∧ u = []) ∨ (idsOk 0 ids = true ∧ 0 < ids.length ∧ ∃ cap sp, plainL sp = true ∧ v = .tuple #[.slice (some ⟨3, 0, none⟩) ids.length cap, .int .i64 (plE l ids)] ∧ u = [(3, Blk.cells (rws ic (plQ l ids) ++ sp) 3 true)]) := by
    cases h1 : idsOk 0 ids
    · exact ⟨_, _, .inl ⟨rfl, rfl, rfl⟩⟩
    · rcases Nat.eq_zero_or_pos ids.length with h2 | h2
      · exact ⟨_, _, .inr (.inl ⟨nil_of h2, rfl, rfl⟩)⟩
      · exact ⟨_, _, .inr (.inr ⟨rfl, h2, 0, [], rfl, rfl, rfl⟩)⟩
  refine fc_of [(0, .cells [.slice (some ⟨1, 0, none⟩) l.length c] 55 true), (1, .cells (rws rc l ++ sp) 67 true), (2, .cells [.bool true] 4 false), (3, .cells [.slice (some ⟨5, 0, none⟩) ids.length mc] 61 false), (4, .cells [.func (.func g) #[] #[.pointer (some ⟨6, 0, none⟩), .pointer (some ⟨7, 0, none⟩)]] 152 false), (5, .cells (rws ic ids) 3 false), (6, .cells [cv1] ct1 false), (7, .cells [cv2] ct2 false)] 8 Try.func126 rfl Try.ntmps126 (by kernel_rfl) (by simp) rfl (bdH_b (by decide) rfl (bdH_c (by decide) (plainL_append (rcs_plain l) hsp) (bdH_b (by decide) rfl (bdH_b (by decide) rfl (bdH_b (by decide) rfl (bdH_c (by decide) (ics_plain ids) (bdH_b (by decide) (by simp [bdB, bdL, bdV_plain _ _ hcv1]) (bdH_b (by decide) (by simp [bdB, bdL, bdV_plain _ _ hcv2]) rfl)))))))) (hall_of rfl) ?_
  refine vc_seq ?_
  refine vc_go (by kernel_rfl) fun K hK => hK _ _ _ ?_
  clear hK K
  refine vc_seq ?_
  refine vc_seq ?_
  refine vc_go (by kernel_rfl) fun K hK => hK _ _ _ ?_
  clear hK K
  refine vc_cond (t := false) rfl (fun h => by cases h) (fun _ => ?_)
  refine vc_skip ?_
  refine vc_seq ?_
  refine vc_reg (by kernel_rfl) fun K hK => ?_
  refine run_n (z := false) 2 (fun K' hK' => hK' _ _ _ ?_) (by decide)
  clear hK' K'
  refine run_fc (fun k => if k = 2 then (5, 0) else (k, 0)) (p127 (l := l) (ids := ids) (c := c) (mc := mc) hl hm) (hasF ⟨sf_win1 rfl rfl rfl, sf_winp (rcs_plain l) rfl get_zero_app, sf_winp (ics_plain ids) rfl get_zero, trivial⟩ rfl) rfl rfl rfl rfl h127ne ?_
  rintro _ _ (⟨hid, rfl, rfl⟩ | ⟨hid, rfl, rfl⟩ | ⟨hid, hpos, cap, sp9, hsp9, rfl, rfl⟩)
  · have ha : alR true f l ids = (2, l) := by simp [alR, hid]
    refine run_end (z := false) fun K' hK' => hK' _ _ _ (hK _ _ _ ?_)
    clear hK' K' hK K
    refine vc_seq ?_
    refine vc_seq ?_
    refine vc_go (by kernel_rfl) fun K hK => hK _ _ _ ?_
    clear hK K
    refine vc_block ?_
    refine vc_rounds 1 ?_
    refine vc_seq ?_
    refine vc_go (by kernel_rfl) fun K hK => hK _ _ _ ?_
    clear hK K
    refine vc_seq ?_
    refine vc_cond (t := false) rfl (fun h => by cases h) (fun _ => ?_)
    refine vc_exit ?_
    refine vc_seq ?_
    refine vc_go (by kernel_rfl) fun K hK => hK _ _ _ ?_
    clear hK K
    refine vc_ret ⟨.inr rfl, ?_⟩
    rw [ha]
    exact res_of 200 _ _ ⟨rfl, rfl⟩ (Nat.le_of_ble_eq_true rfl) rfl rfl ⟨sbu' rfl, sbu (plainL_append (rcs_plain l) hsp) rfl, trivial⟩ (bdH_b (by decide) rfl (bdH_c (by decide) (plainL_append (rcs_plain l) hsp) rfl)) rfl (.inr (Nat.le_of_ble_eq_true rfl))
  · have ha : alR true f l ids = (0, l) := by rw [hid]; rfl
    refine run_end (z := false) fun K' hK' => hK' _ _ _ (hK _ _ _ ?_)
    clear hK' K' hK K
    refine vc_seq ?_
    refine vc_seq ?_
    refine vc_go (by kernel_rfl) fun K hK => hK _ _ _ ?_
    clear hK K
    refine vc_block ?_
    refine vc_rounds 1 ?_
    refine vc_seq ?_
    refine vc_go (by kernel_rfl) fun K hK => hK _ _ _ ?_
    clear hK K
    refine vc_seq ?_
    refine vc_cond (t := false) rfl (fun h => by cases h) (fun _ => ?_)
    refine vc_exit ?_
    refine vc_seq ?_
    refine vc_go (by kernel_rfl) fun K hK => hK _ _ _ ?_
    clear hK K
    refine vc_ret ⟨.inr rfl, ?_⟩
    rw [ha]
    exact res_of 200 _ _ ⟨rfl, rfl⟩ (Nat.le_of_ble_eq_true rfl) rfl rfl ⟨sbu' rfl, sbu (plainL_append (rcs_plain l) hsp) rfl, trivial⟩ (bdH_b (by decide) rfl (bdH_c (by decide) (plainL_append (rcs_plain l) hsp) rfl)) rfl (.inr (Nat.le_of_ble_eq_true rfl))
  · rw [renU_c (renB_p (plainL_append (ics_plain _) hsp9)) renU_nil]
    by_cases h4 : plE l ids = 0
    rotate_left
    · have h4e := plE_four h4
      have ha : alR true f l ids = (4, l) := by simp [alR, hid, h4]
      rw [h4e]
      obtain ⟨x, hx⟩ : ∃ x, ids[0]? = some x := ⟨ids[0], List.getElem?_eq_getElem hpos⟩
      refine run_end (z := false) fun K' hK' => hK' _ _ _ (hK _ _ _ ?_)
      clear hK' K' hK K
      refine vc_seq ?_
      refine vc_seq ?_
      refine vc_go (by kernel_rfl) fun K hK => hK _ _ _ ?_
      clear hK K
      refine vc_block ?_
      refine vc_rounds 1 ?_
      refine vc_seq ?_
      refine vc_go (by kernel_rfl) fun K hK => hK _ _ _ ?_
      clear hK K
      refine vc_seq ?_
      refine vc_cond (t := true) (bb (by rw [decide_eq_true_eq]; exact Int.ofNat_lt.2 hpos)) (fun _ => ?_) (fun h => by cases h)
      refine vc_skip ?_
      refine vc_seq ?_
      refine vc_block ?_
      refine vc_seq ?_
      refine vc_reg (by kernel_rfl) fun K hK => ?_
      refine run_op (vex_ixs (j := 0) rfl rfl rfl hpos rfl rfl) rfl ?_
      refine run_rd (vex_ldc ic_len (j := 0) (i := 0) rfl rfl rfl rfl rfl (plQ_get hx) (by decide) rfl) rfl ?_
      refine run_end (z := false) fun K' hK' => hK' _ _ _ (hK _ _ _ ?_)
      clear hK' K' hK K
      refine vc_seq ?_
      refine vc_seq ?_
      refine vc_go (by kernel_rfl) fun K hK => hK _ _ _ ?_
      clear hK K
      refine vc_cond (t := true) rfl (fun _ => ?_) (fun h => by cases h)
      refine vc_exit ?_
      refine vc_seq ?_
      refine vc_go (by kernel_rfl) fun K hK => hK _ _ _ ?_
      clear hK K
      refine vc_ret ⟨.inr rfl, ?_⟩
      rw [ha]
      exact res_of 200 _ _ ⟨rfl, rfl⟩ (Nat.le_of_ble_eq_true rfl) rfl rfl ⟨sbu' rfl, sbu (plainL_append (rcs_plain l) hsp) rfl, trivial⟩ (bdH_b (by decide) rfl (bdH_c (by decide) (plainL_append (rcs_plain l) hsp) rfl)) rfl (.inr (Nat.le_of_ble_eq_true rfl))
    · have ha : alR true f l ids = altL f (pls l ids) l 0 := by simp [alR, hid, h4]
      refine run_end (z := false) fun K' hK' => hK' _ _ _ (hK _ _ _ ?_)
      clear hK' K' hK K
      refine vc_seq ?_
      refine vc_seq ?_
      refine vc_go (by kernel_rfl) fun K hK => hK _ _ _ ?_
      clear hK K
      refine vc_block ?_
      refine vc_loopF (fun n s => ∃ (j : Nat) (lc : List Rn) (e : Int), n = ids.length - j ∧ j ≤ ids.length ∧ lc.length = l.length ∧ altL f ((pls l ids).drop j) lc e = altL f (pls l ids) l 0 ∧ s = can [(0, .pointer (some ⟨0, 0, none⟩)), (3, .pointer (some ⟨4, 0, none⟩)), (5, .int .i64 0), (7, .int .i64 e), (18, .slice (some ⟨10, 0, none⟩) ids.length cap), (19, .int .i64 (ids.length : Int)), (20, .int .i64 ((j : Nat) : Int))] [(0, .cells [.slice (some ⟨1, 0, none⟩) l.length c] 55 true), (1, .cells (rws rc lc ++ sp) 67 true), (2, .cells [.bool true] 4 false), (3, .cells [.slice (some ⟨5, 0, none⟩) ids.length mc] 61 false), (4, .cells [.func (.func g) #[] #[.pointer (some ⟨6, 0, none⟩), .pointer (some ⟨7, 0, none⟩)]] 152 false), (5, .cells (rws ic ids) 3 false), (6, .cells [cv1] ct1 false), (7, .cells [cv2] ct2 false), (10, .cells (rws ic (plQ l ids) ++ sp9) 3 true)] 11) ids.length ?_ ?_
      · exact ⟨_, fg_focus [(0, .pointer (some ⟨0, 0, none⟩)), (3, .pointer (some ⟨4, 0, none⟩)), (5, .int .i64 0), (7, .int .i64 0), (18, .slice (some ⟨10, 0, none⟩) ids.length cap), (19, .int .i64 (ids.length : Int)), (20, .int .i64 ((0 : Nat) : Int))] [(0, .cells [.slice (some ⟨1, 0, none⟩) l.length c] 55 true), (1, .cells (rws rc l ++ sp) 67 true), (2, .cells [.bool true] 4 false), (3, .cells [.slice (some ⟨5, 0, none⟩) ids.length mc] 61 false), (4, .cells [.func (.func g) #[] #[.pointer (some ⟨6, 0, none⟩), .pointer (some ⟨7, 0, none⟩)]] 152 false), (5, .cells (rws ic ids) 3 false), (6, .cells [cv1] ct1 false), (7, .cells [cv2] ct2 false), (10, .cells (rws ic (plQ l ids) ++ sp9) 3 true)] 11 (by decide) ⟨rfl, rfl, rfl, ii h4, rfl, rfl, rfl, trivial⟩ ⟨sb rfl, sb rfl, sb rfl, sb rfl, sb rfl, sb rfl, sb rfl, sb rfl, sb rfl, trivial⟩ rfl (bdH_b (by decide) rfl (bdH_c (by decide) (plainL_append (rcs_plain l) hsp) (bdH_b (by decide) rfl (bdH_b (by decide) rfl (bdH_b (by decide) rfl (bdH_c (by decide) (ics_plain ids) (bdH_b (by decide) (by simp [bdB, bdL, bdV_plain _ _ hcv1]) (bdH_b (by decide) (by simp [bdB, bdL, bdV_plain _ _ hcv2]) (bdH_c (by decide) (plainL_append (ics_plain _) hsp9) rfl))))))))), 0, l, 0, rfl, Nat.zero_le _, rfl, rfl, rfl⟩
      · rintro n s ⟨j, lc, e, hn, hj, hlc, halt, rfl⟩
        refine vc_seq ?_
        refine vc_go (by kernel_rfl) fun K hK => hK _ _ _ ?_
        clear hK K
        refine vc_seq ?_
        refine vc_cond rfl (fun c0 => ?_) (fun c0 => ?_)
        · -- cond 1 t21 true
          refine vc_skip ?_
          refine vc_seq ?_
          refine vc_block ?_
          refine vc_seq ?_
          have hlt := len_le c0
          obtain ⟨x, hx⟩ : ∃ x, ids[j]? = some x := ⟨ids[j], List.getElem?_eq_getElem hlt⟩
          have hxb := plE_found h4 (List.mem_of_getElem? hx)
          obtain ⟨a0, ha0, hai⟩ := atB_get hxb
          obtain ⟨r, hr⟩ : ∃ r, lc[atI l x]? = some r := ⟨lc[atI l x]'(by omega), List.getElem?_eq_getElem (by omega)⟩
          refine vc_reg (by kernel_rfl) fun K hK => ?_
          refine run_op (vex_ixs (j := j) rfl rfl rfl hlt rfl rfl) rfl ?_
          refine run_rd (vex_ldc ic_len (j := 0) (i := j) rfl (Nat.zero_add _) rfl rfl rfl (plQ_get hx) (by decide) rfl) rfl ?_
          refine run_end (z := false) fun K' hK' => hK' _ _ _ (hK _ _ _ ?_)
          clear hK' K' hK K
          refine vc_seq ?_
          refine vc_seq ?_
          refine vc_go (by kernel_rfl) fun K hK => hK _ _ _ ?_
          clear hK K
          refine vc_cond rfl (fun he0 => ?_) (fun he0 => ?_)
          · -- cond 2 t25 true
            refine vc_exit ?_
            refine vc_seq ?_
            refine vc_go (by kernel_rfl) fun K hK => hK _ _ _ ?_
            clear hK K
            refine vc_ret ⟨.inr rfl, ?_⟩
            have hne : e ≠ 0 := by rw [bne_iff_ne] at he0; exact he0
            rw [ha, ← halt, altL_stop hne]
            exact res_of 200 _ _ ⟨rfl, rfl⟩ (Nat.le_of_ble_eq_true rfl) rfl rfl ⟨sbu' rfl, sbu (plainL_append (rcs_plain lc) hsp) rfl, trivial⟩ (bdH_b (by decide) rfl (bdH_c (by decide) (plainL_append (rcs_plain lc) hsp) rfl)) rfl (.inr (Nat.le_of_ble_eq_true rfl))
          · -- cond 2 t25 false
            refine vc_skip ?_
            have he0 : e = 0 := by simpa using he0
            refine vc_regD [] (by kernel_rfl) (by kernel_rfl) fun K hK => ?_
            refine runD_n (z := false) 6 (fun K' hK' => hK' _ _ _ _ ?_) (by decide)
            clear hK' K'
            refine runD_op (vex_ixs (j := atI l x) rfl rfl rfl (by omega) rfl rfl) rfl ?_
            refine runD_fc (fun k => if k = 0 then (1, 0) else (k + 5, 0)) (hdo lc (atI l x) r hr) (hasF ⟨sf_ownp (plainL_append (rcs_plain lc) hsp) rfl rfl, sf_win1 rfl rfl (renV_plain _ _ hcv1).symm, sf_win1 rfl rfl (renV_plain _ _ hcv2).symm, trivial⟩ rfl) rfl rfl rfl rfl ⟨_, _, rfl, rfl⟩ (by rintro _ _ ⟨rfl, rfl⟩; rfl) ?_
            rintro _ _ ⟨rfl, rfl⟩
            rw [renU_c (renB_p (plainL_append (rcs_plain _) hsp)) renU_nil]
            refine runD_end (z := false) fun K' hK' => hK' _ _ _ _ (hK _ _ _ ?_)
            clear hK' K' hK K
            refine vc_go (by kernel_rfl) fun K hK => hK _ _ _ ?_
            clear hK K
            exact ⟨_, fg_focus [(0, .pointer (some ⟨0, 0, none⟩)), (3, .pointer (some ⟨4, 0, none⟩)), (5, .int .i64 0), (7, .int .i64 (f r).1), (18, .slice (some ⟨10, 0, none⟩) ids.length cap), (19, .int .i64 (ids.length : Int)), (20, .int .i64 ((j + 1 : Nat) : Int))] [(0, .cells [.slice (some ⟨1, 0, none⟩) l.length c] 55 true), (1, .cells (rws rc (lc.set (atI l x) (f r).2) ++ sp) 67 true), (2, .cells [.bool true] 4 false), (3, .cells [.slice (some ⟨5, 0, none⟩) ids.length mc] 61 false), (4, .cells [.func (.func g) #[] #[.pointer (some ⟨6, 0, none⟩), .pointer (some ⟨7, 0, none⟩)]] 152 false), (5, .cells (rws ic ids) 3 false), (6, .cells [cv1] ct1 false), (7, .cells [cv2] ct2 false), (10, .cells (rws ic (plQ l ids) ++ sp9) 3 true)] 11 (by decide) ⟨rfl, rfl, rfl, rfl, rfl, rfl, ii (wrapI (by omega) (by omega)), trivial⟩ ⟨sb rfl, sb rfl, sb rfl, sb rfl, sb rfl, sb rfl, sb rfl, sb rfl, sb rfl, trivial⟩ rfl (bdH_b (by decide) rfl (bdH_c (by decide) (plainL_append (rcs_plain _) hsp) (bdH_b (by decide) rfl (bdH_b (by decide) rfl (bdH_b (by decide) rfl (bdH_c (by decide) (ics_plain ids) (bdH_b (by decide) (by simp [bdB, bdL, bdV_plain _ _ hcv1]) (bdH_b (by decide) (by simp [bdB, bdL, bdV_plain _ _ hcv2]) (bdH_c (by decide) (plainL_append (ics_plain _) hsp9) rfl))))))))), ids.length - (j + 1), by omega, j + 1, lc.set (atI l x) (f r).2, (f r).1, rfl, hlt, by rw [List.length_set]; exact hlc, by rw [← halt, drop_cons (pls_get hx)]; subst he0; exact (altL_step hr).symm, rfl⟩
        · -- cond 1 t21 false
          refine vc_exit ?_
          refine vc_seq ?_
          refine vc_go (by kernel_rfl) fun K hK => hK _ _ _ ?_
          clear hK K
          refine vc_ret ⟨.inr rfl, ?_⟩
          have hge := len_ge c0
          have : (pls l ids).drop j = [] := List.drop_eq_nil_of_le (by rw [pls, List.length_map]; omega)
          rw [this] at halt
          rw [ha, ← halt]
          exact res_of 200 _ _ ⟨rfl, rfl⟩ (Nat.le_of_ble_eq_true rfl) rfl rfl ⟨sbu' rfl, sbu (plainL_append (rcs_plain lc) hsp) rfl, trivial⟩ (bdH_b (by decide) rfl (bdH_c (by decide) (plainL_append (rcs_plain lc) hsp) rfl)) rfl (.inr (Nat.le_of_ble_eq_true rfl))

end Go.Proofs.Ytdfkcijholopoaa.Vm
