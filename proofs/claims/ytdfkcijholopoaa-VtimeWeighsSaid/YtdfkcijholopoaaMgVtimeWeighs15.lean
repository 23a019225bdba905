/- What the proofs stand on, in one text: Nd, Ne. -/
import Derived.Test.YtdfkcijholopoaaMgVtimeWeighs14
namespace Go.Proofs.Ytdfkcijholopoaa.Vm
open Go Go.RowKit
set_option maxRecDepth 10000
set_option linter.unusedSimpArgs false
set_option linter.unusedVariables false


theorem p68ea {l : List Rn} {ids : List Int} {c mc w : Nat} {m : Int} (hw : w < 1) {e : Int} (h111 : FC 111 [qv 0 l.length c, .bool false, .slice (some ⟨1, 0, none⟩) ids.length mc, .func (.func 112) #[] #[.pointer (some ⟨2, 0, none⟩), .pointer (some ⟨3, 0, none⟩)]] 4 [(0, .cells (rws rc l) 0 false), (1, .cells (rws ic ids) 3 false), (2, .cells [.int .i64 m] 3 false), (3, .cells [u64 w] 22 false)] (fun v u => v = .tuple #[qnil, .int .i64 e] ∧ u = [])) : FC 68 [qv 0 l.length c, .slice (some ⟨1, 0, none⟩) ids.length mc, u64 w, .int .i64 m] 2 [(0, .cells (rws rc l) 0 false), (1, .cells (rws ic ids) 3 false)] (fun v u => v = .tuple #[qnil, .int .i64 e] ∧ u = []) := by
  refine fc_of [(0, .cells (rws rc l) 0 false), (1, .cells (rws ic ids) 3 false)] 2 Try.func68 rfl Try.ntmps68 (by kernel_rfl) (by simp) rfl (bdH_c (by decide) (rcs_plain l) (bdH_c (by decide) (ics_plain ids) rfl)) (hall_of rfl) ?_
  refine vc_seq ?_
  refine vc_go (by kernel_rfl) fun K hK => hK _ _ _ ?_
  clear hK K
  refine vc_seq ?_
  refine vc_reg (by kernel_rfl) fun K hK => ?_
  refine run_n (z := false) 3 (fun K' hK' => hK' _ _ _ ?_) (by decide)
  clear hK' K'
  refine vgo_known 13 (b := false) (bb (decide_eq_false (by omega))) ?_
  refine run_n (z := false) 4 (fun K' hK' => hK' _ _ _ ?_) (by decide)
  clear hK' K'
  refine vgo_known 17 (b := false) (rfl) ?_
  refine run_end (z := false) fun K' hK' => hK' _ _ _ (hK _ _ _ ?_)
  clear hK' K' hK K
  refine vc_seq ?_
  refine vc_reg (by kernel_rfl) fun K hK => ?_
  refine run_n (z := false) 4 (fun K' hK' => hK' _ _ _ ?_) (by decide)
  clear hK' K'
  refine run_fc (fun k => if k = 2 then (4, 0) else (k, 0)) h111 (hasF ⟨sf_winp (rcs_plain l) rfl get_zero, sf_winp (ics_plain ids) rfl get_zero, sf_winp rfl rfl get_zero, sf_winp rfl rfl get_zero, trivial⟩ rfl) rfl rfl rfl rfl ⟨_, _, rfl, rfl⟩ ?_
  rintro _ _ ⟨rfl, rfl⟩
  refine run_end (z := false) fun K' hK' => hK' _ _ _ (hK _ _ _ ?_)
  clear hK' K' hK K
  refine vc_ret ⟨.inr rfl, ?_⟩
  exact res_plain ⟨rfl, rfl⟩ rfl rfl rfl

theorem p68eb {l : List Rn} {ids : List Int} {c mc w : Nat} {m : Int} (hw : 65535 < w) {e : Int} (h111 : FC 111 [qv 0 l.length c, .bool false, .slice (some ⟨1, 0, none⟩) ids.length mc, .func (.func 112) #[] #[.pointer (some ⟨2, 0, none⟩), .pointer (some ⟨3, 0, none⟩)]] 4 [(0, .cells (rws rc l) 0 false), (1, .cells (rws ic ids) 3 false), (2, .cells [.int .i64 m] 3 false), (3, .cells [u64 w] 22 false)] (fun v u => v = .tuple #[qnil, .int .i64 e] ∧ u = [])) : FC 68 [qv 0 l.length c, .slice (some ⟨1, 0, none⟩) ids.length mc, u64 w, .int .i64 m] 2 [(0, .cells (rws rc l) 0 false), (1, .cells (rws ic ids) 3 false)] (fun v u => v = .tuple #[qnil, .int .i64 e] ∧ u = []) := by
  refine fc_of [(0, .cells (rws rc l) 0 false), (1, .cells (rws ic ids) 3 false)] 2 Try.func68 rfl Try.ntmps68 (by kernel_rfl) (by simp) rfl (bdH_c (by decide) (rcs_plain l) (bdH_c (by decide) (ics_plain ids) rfl)) (hall_of rfl) ?_
  refine vc_seq ?_
  refine vc_go (by kernel_rfl) fun K hK => hK _ _ _ ?_
  clear hK K
  refine vc_seq ?_
  refine vc_reg (by kernel_rfl) fun K hK => ?_
  refine run_n (z := false) 3 (fun K' hK' => hK' _ _ _ ?_) (by decide)
  clear hK' K'
  refine vgo_known 13 (b := true) (bb (decide_eq_true (by omega))) ?_
  refine run_n (z := false) 4 (fun K' hK' => hK' _ _ _ ?_) (by decide)
  clear hK' K'
  refine vgo_known 17 (b := false) (bb (decide_eq_false (by omega))) ?_
  refine run_end (z := false) fun K' hK' => hK' _ _ _ (hK _ _ _ ?_)
  clear hK' K' hK K
  refine vc_seq ?_
  refine vc_reg (by kernel_rfl) fun K hK => ?_
  refine run_n (z := false) 4 (fun K' hK' => hK' _ _ _ ?_) (by decide)
  clear hK' K'
  refine run_fc (fun k => if k = 2 then (4, 0) else (k, 0)) h111 (hasF ⟨sf_winp (rcs_plain l) rfl get_zero, sf_winp (ics_plain ids) rfl get_zero, sf_winp rfl rfl get_zero, sf_winp rfl rfl get_zero, trivial⟩ rfl) rfl rfl rfl rfl ⟨_, _, rfl, rfl⟩ ?_
  rintro _ _ ⟨rfl, rfl⟩
  refine run_end (z := false) fun K' hK' => hK' _ _ _ (hK _ _ _ ?_)
  clear hK' K' hK K
  refine vc_ret ⟨.inr rfl, ?_⟩
  exact res_plain ⟨rfl, rfl⟩ rfl rfl rfl

theorem p68ec {l : List Rn} {ids : List Int} {c mc w : Nat} {m : Int} (hw : 1 ≤ w ∧ w ≤ 65535) {e : Int} (h111 : FC 111 [qv 0 l.length c, .bool (inI m 8), .slice (some ⟨1, 0, none⟩) ids.length mc, .func (.func 112) #[] #[.pointer (some ⟨2, 0, none⟩), .pointer (some ⟨3, 0, none⟩)]] 4 [(0, .cells (rws rc l) 0 false), (1, .cells (rws ic ids) 3 false), (2, .cells [.int .i64 m] 3 false), (3, .cells [u64 w] 22 false)] (fun v u => v = .tuple #[qnil, .int .i64 e] ∧ u = [])) : FC 68 [qv 0 l.length c, .slice (some ⟨1, 0, none⟩) ids.length mc, u64 w, .int .i64 m] 2 [(0, .cells (rws rc l) 0 false), (1, .cells (rws ic ids) 3 false)] (fun v u => v = .tuple #[qnil, .int .i64 e] ∧ u = []) := by
  refine fc_of [(0, .cells (rws rc l) 0 false), (1, .cells (rws ic ids) 3 false)] 2 Try.func68 rfl Try.ntmps68 (by kernel_rfl) (by simp) rfl (bdH_c (by decide) (rcs_plain l) (bdH_c (by decide) (ics_plain ids) rfl)) (hall_of rfl) ?_
  refine vc_seq ?_
  refine vc_go (by kernel_rfl) fun K hK => hK _ _ _ ?_
  clear hK K
  refine vc_seq ?_
  refine vc_reg (by kernel_rfl) fun K hK => ?_
  refine run_n (z := false) 3 (fun K' hK' => hK' _ _ _ ?_) (by decide)
  clear hK' K'
  refine vgo_known 13 (b := true) (bb (decide_eq_true (by omega))) ?_
  refine run_n (z := false) 4 (fun K' hK' => hK' _ _ _ ?_) (by decide)
  clear hK' K'
  refine vgo_known 17 (b := true) (bb (decide_eq_true (by omega))) ?_
  refine run_n (z := false) 1 (fun K' hK' => hK' _ _ _ ?_) (by decide)
  clear hK' K'
  refine run_call (p110 _) rfl rfl rfl rfl ?_
  refine run_end (z := false) fun K' hK' => hK' _ _ _ (hK _ _ _ ?_)
  clear hK' K' hK K
  refine vc_seq ?_
  refine vc_reg (by kernel_rfl) fun K hK => ?_
  refine run_n (z := false) 4 (fun K' hK' => hK' _ _ _ ?_) (by decide)
  clear hK' K'
  refine run_fc (fun k => if k = 2 then (4, 0) else (k, 0)) h111 (hasF ⟨sf_winp (rcs_plain l) rfl get_zero, sf_winp (ics_plain ids) rfl get_zero, sf_winp rfl rfl get_zero, sf_winp rfl rfl get_zero, trivial⟩ rfl) rfl rfl rfl rfl ⟨_, _, rfl, rfl⟩ ?_
  rintro _ _ ⟨rfl, rfl⟩
  refine run_end (z := false) fun K' hK' => hK' _ _ _ (hK _ _ _ ?_)
  clear hK' K' hK K
  refine vc_ret ⟨.inr rfl, ?_⟩
  exact res_plain ⟨rfl, rfl⟩ rfl rfl rfl

theorem p68k {l : List Rn} {ids : List Int} {c mc w : Nat} {m : Int} (hw : 1 ≤ w ∧ w ≤ 65535) {l2 : List Rn} (h111 : FC 111 [qv 0 l.length c, .bool (inI m 8), .slice (some ⟨1, 0, none⟩) ids.length mc, .func (.func 112) #[] #[.pointer (some ⟨2, 0, none⟩), .pointer (some ⟨3, 0, none⟩)]] 4 [(0, .cells (rws rc l) 0 false), (1, .cells (rws ic ids) 3 false), (2, .cells [.int .i64 m] 3 false), (3, .cells [u64 w] 22 false)] (fun v u => ∃ c2 sp2, plainL sp2 = true ∧ v = .tuple #[qv 4 l.length c2, .int .i64 0] ∧ u = [(4, .cells (rws rc l2 ++ sp2) 67 true)])) : FC 68 [qv 0 l.length c, .slice (some ⟨1, 0, none⟩) ids.length mc, u64 w, .int .i64 m] 2 [(0, .cells (rws rc l) 0 false), (1, .cells (rws ic ids) 3 false)] (fun v u => ∃ c2 sp2, plainL sp2 = true ∧ v = .tuple #[qv 2 l.length c2, .int .i64 0] ∧ u = [(2, .cells (rws rc l2 ++ sp2) 67 true)]) := by
  refine fc_of [(0, .cells (rws rc l) 0 false), (1, .cells (rws ic ids) 3 false)] 2 Try.func68 rfl Try.ntmps68 (by kernel_rfl) (by simp) rfl (bdH_c (by decide) (rcs_plain l) (bdH_c (by decide) (ics_plain ids) rfl)) (hall_of rfl) ?_
  refine vc_seq ?_
  refine vc_go (by kernel_rfl) fun K hK => hK _ _ _ ?_
  clear hK K
  refine vc_seq ?_
  refine vc_reg (by kernel_rfl) fun K hK => ?_
  refine run_n (z := false) 3 (fun K' hK' => hK' _ _ _ ?_) (by decide)
  clear hK' K'
  refine vgo_known 13 (b := true) (bb (decide_eq_true (by omega))) ?_
  refine run_n (z := false) 4 (fun K' hK' => hK' _ _ _ ?_) (by decide)
  clear hK' K'
  refine vgo_known 17 (b := true) (bb (decide_eq_true (by omega))) ?_
  refine run_n (z := false) 1 (fun K' hK' => hK' _ _ _ ?_) (by decide)
  clear hK' K'
  refine run_call (p110 _) rfl rfl rfl rfl ?_
  refine run_end (z := false) fun K' hK' => hK' _ _ _ (hK _ _ _ ?_)
  clear hK' K' hK K
  refine vc_seq ?_
  refine vc_reg (by kernel_rfl) fun K hK => ?_
  refine run_n (z := false) 4 (fun K' hK' => hK' _ _ _ ?_) (by decide)
  clear hK' K'
  refine run_fc (fun k => if k = 2 then (4, 0) else (k, 0)) h111 (hasF ⟨sf_winp (rcs_plain l) rfl get_zero, sf_winp (ics_plain ids) rfl get_zero, sf_winp rfl rfl get_zero, sf_winp rfl rfl get_zero, trivial⟩ rfl) rfl rfl rfl rfl ⟨_, _, 0, [], rfl, rfl, rfl⟩ ?_
  rintro _ _ ⟨c2, sp2, hp2, rfl, rfl⟩
  rw [renU_c (renB_p (plainL_append (rcs_plain _) hp2)) renU_nil]
  refine run_end (z := false) fun K' hK' => hK' _ _ _ (hK _ _ _ ?_)
  clear hK' K' hK K
  refine vc_ret ⟨.inr rfl, ?_⟩
  exact res_of 10 _ _ ⟨c2, sp2, hp2, rfl, rfl⟩ (Nat.le_of_ble_eq_true rfl) rfl rfl ⟨sbu (plainL_append (rcs_plain _) hp2) rfl, trivial⟩ (bdH_c (by decide) (plainL_append (rcs_plain _) hp2) rfl) rfl (.inl (by simp))
theorem p68 {l : List Rn} {ids : List Int} {c mc w : Nat} {m : Int} (hl : l.length ≤ 900) (hm : ids.length ≤ 900) :
    ((okq 0 l = false ∨ (alR (wt w && inI m 8) (fWeigh m w) l ids).1 ≠ 0) ∧ FC 68 [qv 0 l.length c, .slice (some ⟨1, 0, none⟩) ids.length mc, u64 w, .int .i64 m] 2 [(0, .cells (rws rc l) 0 false), (1, .cells (rws ic ids) 3 false)] (fun v u => v = .tuple #[qnil, .int .i64 (if okq 0 l = true then (alR (wt w && inI m 8) (fWeigh m w) l ids).1 else 200)] ∧ u = [])) ∨ (okq 0 l = true ∧ (alR (wt w && inI m 8) (fWeigh m w) l ids).1 = 0 ∧ FC 68 [qv 0 l.length c, .slice (some ⟨1, 0, none⟩) ids.length mc, u64 w, .int .i64 m] 2 [(0, .cells (rws rc l) 0 false), (1, .cells (rws ic ids) 3 false)] (fun v u => ∃ c2 sp2, plainL sp2 = true ∧ v = .tuple #[qv 2 l.length c2, .int .i64 0] ∧ u = [(2, .cells (rws rc (alR (wt w && inI m 8) (fWeigh m w) l ids).2 ++ sp2) 67 true)])) := by
  cases hw : wt w
  · rcases p1112 (ok := false) (f := fWeigh m w) (g := 112) (cv1 := .int .i64 m) (cv2 := u64 w) (ct1 := 3) (ct2 := 22) (l := l) (ids := ids) (c := c) (mc := mc) rfl rfl hl hm (fun h => by cases h) (alR_len _ _ _ _) with ⟨h1, h2⟩ | ⟨h1, h2, h3⟩
    · rcases wt_f hw with h | h
      · exact .inl ⟨h1, p68ea h h2⟩
      · exact .inl ⟨h1, p68eb h h2⟩
    · cases h2
  · rw [Bool.true_and]
    rcases p1112 (ok := inI m 8) (f := fWeigh m w) (g := 112) (cv1 := .int .i64 m) (cv2 := u64 w) (ct1 := 3) (ct2 := 22) (l := l) (ids := ids) (c := c) (mc := mc) rfl rfl hl hm (fun _ sp hsp lc i r hr => p112 hr hsp) (alR_len _ _ _ _) with ⟨h1, h2⟩ | ⟨h1, h2, h3⟩
    · exact .inl ⟨h1, p68ec (wt_w hw) h2⟩
    · exact .inr ⟨h1, h2, p68k (wt_w hw) h3⟩
/-- One number: what alters says. -/
theorem alR_one {ok : Bool} {f : Rn → Int × Rn} {l : List Rn} {t : Int} (hq : okq 0 l = true) (h : (alR ok f l [t]).1 = 0) : ok = true ∧ inI t 16 = true ∧ atB l t = true ∧ ∃ r, l[atI l t]? = some r ∧ r.id = t ∧ (f r).1 = 0 ∧ (alR ok f l [t]).2 = l.set (atI l t) (f r).2 := by
  unfold alR at h ⊢
  cases ok with
  | false => rw [if_pos rfl] at h; cases h
  | true =>
    rw [if_neg (by simp)] at h ⊢
    cases hi : idsOk 0 [t] with
    | false => rw [hi, if_pos rfl] at h; cases h
    | true =>
      rw [hi, if_neg (by simp)] at h
      rw [if_neg (by simp)]
      have hin : inI t 16 = true := by
        simp only [idsOk, Bool.and_eq_true] at hi
        exact hi.1
      cases hb : atB l t with
      | false => simp [plE, hb] at h
      | true =>
        have hp : ¬ plE l [t] ≠ 0 := by simp [plE, hb]
        rw [if_neg hp] at h ⊢
        have ht : i64r t := by
          simp [inI] at hin
          constructor <;> omega
        obtain ⟨a, ha, hid, _⟩ := atB_id hq ht hb
        have hpl : pls l [t] = [atI l t] := rfl
        rw [hpl, altL_step ha] at h ⊢
        exact ⟨rfl, hin, rfl, a, ha, hid, h, rfl⟩
theorem alR_one_e {f : Rn → Int × Rn} {l : List Rn} {r : Rn} {i : Nat} (hq : okq 0 l = true) (hr : l[i]? = some r) : (alR true f l [r.id]).1 = (f r).1 := by
  obtain ⟨e1, e2, _⟩ := at_of hq hr
  have hid := okR_id ((okq0.1 hq).1 r (List.mem_of_getElem? hr))
  have hin : inI r.id 16 = true := inI_yes hid
  unfold alR
  rw [if_neg (by simp), if_neg (by simp [idsOk, hin]; omega), if_neg (by simp [plE, e2])]
  have hpl : pls l [r.id] = [i] := by simp [pls, e1]
  rw [hpl, altL_step hr]
  rfl
/-- One runner altered: the queue is still one. -/
theorem set_ok {l : List Rn} {i : Nat} {r r' : Rn} (hq : okq 0 l = true) (hr : l[i]? = some r) (h' : okR r' = true) (hid : r'.id = r.id) : okq 0 (l.set i r') = true ∧ (l.set i r')[i]? = some r' ∧ getQ (l.set i r') r.id = some r' := by
  obtain ⟨h1, h2⟩ := okq0.1 hq
  have hi : i < l.length := (List.getElem?_eq_some_iff.1 hr).1
  have hg : (l.set i r')[i]? = some r' := by simp [hi]
  have hmap : (l.set i r').map (·.id) = l.map (·.id) := by
    rw [List.map_set, hid]
    apply List.ext_getElem?
    intro k
    rw [List.getElem?_set]
    by_cases e : i = k
    · subst e
      rw [if_pos rfl, if_pos (by simpa using hi), List.getElem?_map, hr]
      rfl
    · rw [if_neg e]
  have hok : okq 0 (l.set i r') = true := by
    refine okq0.2 ⟨fun x hx => ?_, ?_⟩
    · rcases List.mem_or_eq_of_mem_set hx with h | rfl
      · exact h1 x h
      · exact h'
    · have := (List.pairwise_map (f := (·.id)) (R := ((· < ·) : Int → Int → Prop)) (l := l)).2 h2
      rw [← hmap] at this
      exact List.pairwise_map.1 this
  refine ⟨hok, hg, ?_⟩
  obtain ⟨_, _, e3⟩ := at_of hok hg
  rw [← hid]
  exact e3

end Go.Proofs.Ytdfkcijholopoaa.Vm
namespace Go.Proofs.Ytdfkcijholopoaa.Vm
open Go Go.RowKit
set_option maxRecDepth 10000
set_option linter.unusedSimpArgs false
set_option linter.unusedVariables false


abbrev wR (r : Rn) (m : Int) (w : Nat) : Rn := { r with each := m, n := sc r.n w r.w true, w := w }
def Out68k (l1 : List Rn) : Value → List (Nat × Blk) → Prop := fun v u => ∃ c2 sp2, plainL sp2 = true ∧ v = .tuple #[qv 2 l1.length c2, .int .i64 0] ∧ u = [(2, .cells (rws rc l1 ++ sp2) 67 true)]
def weE (l : List Rn) (t : Int) (w : Nat) (m : Int) : Int := if okq 0 l = true then (alR (wt w && inI m 8) (fWeigh m w) l [t]).1 else 200
/-- Weigh, in two ways. -/
theorem weigh_cases (l : List Rn) (t : Int) (w : Nat) (m : Int) (c : Nat) (hl : l.length ≤ 17) :
    (∃ e, e ≠ 0 ∧ e = weE l t w m ∧ FC 68 [qv 0 l.length c, .slice (some ⟨1, 0, none⟩) 1 1, u64 w, .int .i64 m] 2 [(0, .cells (rws rc l) 0 false), (1, .cells (rws ic [t]) 3 false)] (fun v u => v = .tuple #[qnil, .int .i64 e] ∧ u = [])) ∨
    (∃ (l' : List Rn) (r : Rn) (i : Nat), l'.length ≤ 17 ∧ okq 0 l' = true ∧ getQ l t = some r ∧ okR r = true ∧ wt w = true ∧ inI m 8 = true ∧ sc r.n w r.w true < 2 ^ 100 ∧ l'[i]? = some (wR r m w) ∧ r.id = t ∧
      FC 68 [qv 0 l.length c, .slice (some ⟨1, 0, none⟩) 1 1, u64 w, .int .i64 m] 2 [(0, .cells (rws rc l) 0 false), (1, .cells (rws ic [t]) 3 false)] (Out68k l')) := by
  rcases p68 (l := l) (ids := [t]) (c := c) (mc := 1) (w := w) (m := m) (by omega) (by simp) with ⟨h1, h2⟩ | ⟨h1, h2, h3⟩
  · refine .inl ⟨weE l t w m, ?_, rfl, h2⟩
    unfold weE
    split
    · rename_i hq
      rcases h1 with h | h
      · rw [hq] at h; cases h
      · exact h
    · decide
  · obtain ⟨e1, e2, e3, r, hr, hid, hf, hs⟩ := alR_one h1 h2
    rw [Bool.and_eq_true] at e1
    have hR := (okq0.1 h1).1 r (List.mem_of_getElem? hr)
    have hrt := okR_rt hR
    have hfw : fWeigh m w r = if sc r.n w r.w true < 2 ^ 100 then (0, wR r m w) else (131, { r with each := m, n := 0, w := 0 }) := by
      rw [fWeigh, if_neg (by rw [hrt]; simp), if_neg (by rw [e1.1]; simp)]
    rw [hfw] at hf hs
    by_cases hsc : sc r.n w r.w true < 2 ^ 100
    · rw [if_pos hsc] at hs
      have hR' : okR (wR r m w) = true := by
        simp only [okR, Bool.and_eq_true] at hR ⊢
        exact ⟨hR.1, e1.2, rt_mk e1.1 hsc⟩
      obtain ⟨s1, s2, _⟩ := set_ok h1 hr hR' rfl
      obtain ⟨_, _, g3⟩ := at_of h1 hr
      refine .inr ⟨l.set (atI l t) (wR r m w), r, atI l t, by rw [List.length_set]; exact hl, s1, by rw [← hid]; exact g3, hR, e1.1, e1.2, hsc, s2, hid, ?_⟩
      rw [hs] at h3
      unfold Out68k
      rw [List.length_set]
      exact h3
    · rw [if_neg hsc] at hf
      cases hf
theorem weE_131 {l : List Rn} {i : Nat} {r : Rn} {w : Nat} {m : Int} (hq : okq 0 l = true) (hr : l[i]? = some r) (hw : wt w = true) (hm : inI m 8 = true) (h : weE l r.id w m ≠ 0) : weE l r.id w m = 131 := by
  have hrt := okR_rt ((okq0.1 hq).1 r (List.mem_of_getElem? hr))
  unfold weE at h ⊢
  rw [if_pos hq, hw, hm, Bool.and_true, alR_one_e hq hr] at h ⊢
  unfold fWeigh at h ⊢
  rw [if_neg (by rw [hrt]; simp), if_neg (by rw [hw]; simp)] at h ⊢
  split
  · rename_i hs
    rw [if_pos hs] at h
    exact absurd rfl h
  · rfl
theorem get_at {l : List Rn} {i : Nat} {r : Rn} {t : Int} (hq : okq 0 l = true) (hr : l[i]? = some r) (ht : r.id = t) : getQ l t = some r := by
  subst ht
  exact (at_of hq hr).2.2

theorem okR_each8 {r : Rn} (h : okR r = true) : inI r.each 8 = true := by
  simp only [okR, Bool.and_eq_true] at h
  exact h.2.1

theorem p17 (x : List Rn) (t : Int) (w : Nat) (m : Int) (c : Nat) (hc : x.length ≤ c) : RO 17 [qv 0 x.length c, .int .i64 t, .agg #[u64 w, .int .i64 m]] [(0, rws rc x)] (.bool true) := by
  refine ro_of _ 1 Try.func17 rfl Try.ntmps17 (by kernel_rfl) (by simp) rfl rfl (by simp) (by simp [rcs_plain]) ?_
  refine vc_seq ?_
  refine vc_go (by kernel_rfl) fun K hK => hK _ _ _ ?_
  clear hK K
  refine vc_seq ?_
  refine vc_seq ?_
  refine vc_reg (by kernel_rfl) fun K hK => ?_
  refine run_call (p38) rfl rfl rfl rfl ?_
  refine run_end (z := false) fun K' hK' => hK' _ _ _ (hK _ _ _ ?_)
  clear hK' K' hK K
  refine vc_cond (t := false) rfl (fun h => by cases h) (fun _ => ?_)
  refine vc_skip ?_
  refine vc_seq ?_
  refine vc_regD [(1, 3), (1, 5), (0, 6), (1, 6), (3, 6), (5, 6), (3, 7), (5, 7)] (by kernel_rfl) (by kernel_rfl) fun K hK => ?_
  refine runD_n (z := false) 1 (fun K' hK' => hK' _ _ _ _ ?_) (by decide)
  clear hK' K'
  refine runD_fc (fun k => (k, 0)) (p39 hc) (hasF ⟨sf_winp (rcs_plain x) rfl get_zero, trivial⟩ rfl) rfl rfl rfl rfl ⟨_, _, _, Nat.le_refl _, rfl, rfl⟩ (by rintro _ _ ⟨_, _, rfl, rfl⟩; rfl) ?_
  rintro _ _ ⟨c2, hlc, rfl, rfl⟩
  rw [renU_c (renB_p (spare_plain _ _)) renU_nil]
  refine runD_end (z := false) fun K' hK' => hK' _ _ _ _ (hK _ _ _ ?_)
  clear hK' K' hK K
  have hl : (x.take 17).length ≤ 17 := take17 x
  generalize x.take 17 = l at *
  refine renF (fun k => if k = 0 then 9 else 4) [(1, .int .i64 t), (6, .bool false), (7, .pointer (some ⟨0, 0, none⟩)), (8, u64 w), (9, .int .i64 m)] [(0, .cells [.slice (some ⟨1, 0, none⟩) l.length c2] 55 true), (1, .cells (rws rc l) 67 false)] 2 (by decide) (fun m hm => absurd hm (Nat.not_lt_zero m)) ⟨rfl, rfl, rfl, rfl, rfl, trivial⟩ ⟨sf_own rfl rfl, sf_winp (rcs_plain l) rfl get_zero_app, trivial⟩ rfl (bdH_b (by decide) rfl (bdH_c (by decide) (rcs_plain l) rfl)) rfl ?_
  refine vc_seq ?_
  rcases weigh_cases l t w m c2 hl with ⟨e, he, hee, h68⟩ | ⟨l1, r, i1, hl1, hq1, hg, hR, hw, hm, hsc, hi1, hid, h68⟩
  · have h43 := p43 l c2 t (by omega)
    refine vc_reg (by kernel_rfl) fun K hK => ?_
    refine run_n (z := false) 2 (fun K' hK' => hK' _ _ _ ?_) (by decide)
    clear hK' K'
    refine run_ro (fun _ => (1, 0)) (h43) ?_ rfl rfl rfl rfl ?_
    · intro x hx
      simp only [List.mem_singleton] at hx
      subst hx
      exact ⟨_, _, _, rfl, fun i v hv => by rw [Nat.zero_add]; exact hv⟩
    refine run_end (z := false) fun K' hK' => hK' _ _ _ (hK _ _ _ ?_)
    clear hK' K' hK K
    refine vc_seq ?_
    refine vc_reg (by kernel_rfl) fun K hK => ?_
    refine run_n (z := false) 5 (fun K' hK' => hK' _ _ _ ?_) (by decide)
    clear hK' K'
    refine run_fc (fun k => if k = 0 then (1, 0) else (11, 0)) h68 (hasF ⟨sf_winp (rcs_plain _) rfl get_zero, sf_winp (ics_plain _) rfl get_zero, trivial⟩ rfl) rfl rfl rfl rfl ⟨_, _, rfl, rfl⟩ ?_
    rintro _ _ ⟨rfl, rfl⟩
    refine run_end (z := false) fun K' hK' => hK' _ _ _ (hK _ _ _ ?_)
    clear hK' K' hK K
    refine vc_seq ?_
    refine vc_seq ?_
    refine vc_reg (by kernel_rfl) fun K hK => ?_
    refine run_n (z := false) 3 (fun K' hK' => hK' _ _ _ ?_) (by decide)
    clear hK' K'
    refine vgo_known 46 (b := true) (bb (bne_iff_ne.2 he)) ?_
    refine run_end (z := false) fun K' hK' => hK' _ _ _ (hK _ _ _ ?_)
    clear hK' K' hK K
    refine vc_cond (t := true) rfl (fun _ => ?_) (fun h => by cases h)
    refine vc_seq ?_
    refine vc_go (by kernel_rfl) fun K hK => hK _ _ _ ?_
    clear hK K
    exact vc_ret ⟨.inr rfl, rfl⟩
  · have h43 := p43 l c2 t (by omega)
    simp only [hg] at h43
    have h43b := fun c => p43 l1 c t (by omega)
    simp only [get_at hq1 hi1 hid] at h43b
    have hrr : rt r.n r.w = true := okR_rt hR
    have hr' : rt (sc r.n w r.w true) w = true := rt_mk hw hsc
    have hw0 : 0 < r.w := (rt_w hrr).1
    have hw1 : 0 < w := (wt_w hw).1
    have hge : r.n * w ≤ sc r.n w r.w true * r.w := sc_ge' hw0
    have h42a := p42y hr' hrr
    have h62 := p62y (k := 1) hr' (by decide)
    have h42b := p42y (rt_less 1 hr') hrr
    refine vc_reg (by kernel_rfl) fun K hK => ?_
    refine run_n (z := false) 2 (fun K' hK' => hK' _ _ _ ?_) (by decide)
    clear hK' K'
    refine run_ro (fun _ => (1, 0)) (h43) ?_ rfl rfl rfl rfl ?_
    · intro x hx
      simp only [List.mem_singleton] at hx
      subst hx
      exact ⟨_, _, _, rfl, fun i v hv => by rw [Nat.zero_add]; exact hv⟩
    refine run_end (z := false) fun K' hK' => hK' _ _ _ (hK _ _ _ ?_)
    clear hK' K' hK K
    refine vc_seq ?_
    refine vc_reg (by kernel_rfl) fun K hK => ?_
    refine run_n (z := false) 5 (fun K' hK' => hK' _ _ _ ?_) (by decide)
    clear hK' K'
    refine run_fc (fun k => if k = 0 then (1, 0) else (11, 0)) h68 (hasF ⟨sf_winp (rcs_plain _) rfl get_zero, sf_winp (ics_plain _) rfl get_zero, trivial⟩ rfl) rfl rfl rfl rfl ⟨_, _, 0, [], rfl, rfl, rfl⟩ ?_
    rintro _ _ ⟨c3, sp3, hp3, rfl, rfl⟩
    rw [renU_c (renB_p (plainL_append (rcs_plain _) hp3)) renU_nil]
    refine run_end (z := false) fun K' hK' => hK' _ _ _ (hK _ _ _ ?_)
    clear hK' K' hK K
    refine refocusF [(1, .int .i64 t), (6, .bool false), (8, u64 w), (9, .int .i64 m), (10, .pointer (some ⟨8, 0, none⟩)), (11, .bool true), (12, .pointer (some ⟨18, 0, none⟩)), (13, .int .i64 0)] [(8, .cells (rc r) 67 true), (14, .cells (rws rc l1 ++ sp3) 67 true), (18, .cells [.slice (some ⟨14, 0, none⟩) l1.length c3] 55 true)] 19 (by decide) ⟨rfl, rfl, rfl, rfl, rfl, rfl, rfl, rfl, trivial⟩ ⟨sb rfl, sb rfl, sb rfl, trivial⟩ rfl (bdH_c (by decide) (rc_plain r) (bdH_c (by decide) (plainL_append (rcs_plain _) hp3) (bdH_b (by decide) rfl rfl))) ?_
    refine vc_seq ?_
    refine vc_seq ?_
    refine vc_reg (by kernel_rfl) fun K hK => ?_
    refine run_n (z := false) 3 (fun K' hK' => hK' _ _ _ ?_) (by decide)
    clear hK' K'
    refine vgo_known 46 (b := false) (bb (by simp)) ?_
    refine run_end (z := false) fun K' hK' => hK' _ _ _ (hK _ _ _ ?_)
    clear hK' K' hK K
    refine vc_cond (t := false) rfl (fun h => by cases h) (fun _ => ?_)
    refine vc_skip ?_
    refine vc_seq ?_
    refine vc_reg (by kernel_rfl) fun K hK => ?_
    refine run_n (z := false) 2 (fun K' hK' => hK' _ _ _ ?_) (by decide)
    clear hK' K'
    refine run_ro (fun _ => (14, 0)) ((h43b c3)) ?_ rfl rfl rfl rfl ?_
    · intro x hx
      simp only [List.mem_singleton] at hx
      subst hx
      exact ⟨_, _, _, rfl, get_zero_app⟩
    refine run_end (z := false) fun K' hK' => hK' _ _ _ (hK _ _ _ ?_)
    clear hK' K' hK K
    refine refocusF [(1, .int .i64 t), (6, .bool false), (8, u64 w), (9, .int .i64 m), (10, .pointer (some ⟨8, 0, none⟩)), (12, .pointer (some ⟨18, 0, none⟩)), (14, .pointer (some ⟨25, 0, none⟩))] [(8, .cells (rc r) 67 true), (14, .cells (rws rc l1 ++ sp3) 67 true), (18, .cells [.slice (some ⟨14, 0, none⟩) l1.length c3] 55 true), (25, .cells (rc (wR r m w)) 67 true)] 26 (by decide) ⟨rfl, rfl, rfl, rfl, rfl, rfl, rfl, trivial⟩ ⟨sb rfl, sb rfl, sb rfl, sb rfl, trivial⟩ rfl (bdH_c (by decide) (rc_plain r) (bdH_c (by decide) (plainL_append (rcs_plain _) hp3) (bdH_b (by decide) rfl (bdH_c (by decide) (rc_plain _) rfl)))) ?_
    refine vc_seq ?_
    refine vc_seq ?_
    refine vc_reg (by kernel_rfl) fun K hK => ?_
    refine run_n (z := false) 6 (fun K' hK' => hK' _ _ _ ?_) (by decide)
    clear hK' K'
    refine vgo_known 65 (b := false) (bb (by simp)) ?_
    refine run_n (z := false) 6 (fun K' hK' => hK' _ _ _ ?_) (by decide)
    clear hK' K'
    refine vgo_known 71 (b := false) (bb (by simp)) ?_
    refine run_n (z := false) 4 (fun K' hK' => hK' _ _ _ ?_) (by decide)
    clear hK' K'
    refine run_call (h42a) rfl rfl rfl rfl ?_
    refine run_end (z := false) fun K' hK' => hK' _ _ _ (hK _ _ _ ?_)
    clear hK' K' hK K
    refine vc_cond (t := false) (bb (decide_eq_false (by have := cmpW_nn hge; omega))) (fun h => by cases h) (fun _ => ?_)
    refine vc_skip ?_
    refine vc_seq ?_
    refine vc_seq ?_
    refine vc_reg (by kernel_rfl) fun K hK => ?_
    refine run_n (z := false) 2 (fun K' hK' => hK' _ _ _ ?_) (by decide)
    clear hK' K'
    refine run_call (h62) rfl rfl rfl rfl ?_
    refine run_end (z := false) fun K' hK' => hK' _ _ _ (hK _ _ _ ?_)
    clear hK' K' hK K
    refine vc_seq ?_
    by_cases hN : sc r.n w r.w true = 0
    · skip
      refine vc_reg (by kernel_rfl) fun K hK => ?_
      refine run_n (z := false) 3 (fun K' hK' => hK' _ _ _ ?_) (by decide)
      clear hK' K'
      refine vgo_known 87 (b := false) (bb (by simp)) ?_
      refine run_n (z := false) 6 (fun K' hK' => hK' _ _ _ ?_) (by decide)
      clear hK' K'
      refine vgo_known 93 (b := false) (bb (by simp [hN])) ?_
      refine run_end (z := false) fun K' hK' => hK' _ _ _ (hK _ _ _ ?_)
      clear hK' K' hK K
      refine vc_cond (t := false) rfl (fun h => by cases h) (fun _ => ?_)
      refine vc_skip ?_
      refine vc_seq ?_
      rcases weigh_cases l1 t r.w r.each c3 hl1 with ⟨e, he, hee, h68⟩ | ⟨l2, r2, i2, hl2, hq2, hg2, hR2, hw2, hm2, hsc2, hi2, hid2, h68⟩
      · subst hee
        have e131 : weE l1 t r.w r.each = 131 := by
          rw [← hid] at he ⊢
          exact weE_131 (r := wR r m w) hq1 hi1 (rt_wt hrr) (okR_each8 hR) he
        rw [e131] at h68
        refine vc_reg (by kernel_rfl) fun K hK => ?_
        refine run_n (z := false) 8 (fun K' hK' => hK' _ _ _ ?_) (by decide)
        clear hK' K'
        refine run_fc (fun k => if k = 0 then (14, 0) else (35, 0)) h68 (hasF ⟨sf_winp (rcs_plain _) rfl get_zero_app, sf_winp (ics_plain _) rfl get_zero, trivial⟩ rfl) rfl rfl rfl rfl ⟨_, _, rfl, rfl⟩ ?_
        rintro _ _ ⟨rfl, rfl⟩
        refine run_end (z := false) fun K' hK' => hK' _ _ _ (hK _ _ _ ?_)
        clear hK' K' hK K
        refine vc_seq ?_
        refine vc_seq ?_
        refine vc_go (by kernel_rfl) fun K hK => hK _ _ _ ?_
        clear hK K
        refine vc_cond (t := true) (bb (by simp)) (fun _ => ?_) (fun h => by cases h)
        refine vc_seq ?_
        refine vc_go (by kernel_rfl) fun K hK => hK _ _ _ ?_
        clear hK K
        exact vc_ret ⟨.inr rfl, rfl⟩
      · rw [get_at hq1 hi1 hid] at hg2
        cases hg2
        have h43c := fun c => p43 l2 c t (by omega)
        simp only [get_at hq2 hi2 hid] at h43c
        have hge2 : sc r.n w r.w true * r.w ≤ sc (sc r.n w r.w true) r.w w true * w := sc_ge' hw1
        have hn2 : r.n ≤ sc (sc r.n w r.w true) r.w w true := by
          have : r.n * w ≤ sc (sc r.n w r.w true) r.w w true * w := Nat.le_trans hge hge2
          exact Nat.le_of_mul_le_mul_right this hw1
        have h42c := p42y (rt_mk hw2 hsc2) hrr
        refine vc_reg (by kernel_rfl) fun K hK => ?_
        refine run_n (z := false) 8 (fun K' hK' => hK' _ _ _ ?_) (by decide)
        clear hK' K'
        refine run_fc (fun k => if k = 0 then (14, 0) else (35, 0)) h68 (hasF ⟨sf_winp (rcs_plain _) rfl get_zero_app, sf_winp (ics_plain _) rfl get_zero, trivial⟩ rfl) rfl rfl rfl rfl ⟨_, _, 0, [], rfl, rfl, rfl⟩ ?_
        rintro _ _ ⟨c5, sp5, hp5, rfl, rfl⟩
        rw [renU_c (renB_p (plainL_append (rcs_plain _) hp5)) renU_nil]
        refine run_end (z := false) fun K' hK' => hK' _ _ _ (hK _ _ _ ?_)
        clear hK' K' hK K
        refine vc_seq ?_
        refine vc_seq ?_
        refine vc_go (by kernel_rfl) fun K hK => hK _ _ _ ?_
        clear hK K
        refine vc_cond (t := false) (bb (by simp)) (fun h => by cases h) (fun _ => ?_)
        refine vc_skip ?_
        refine vc_seq ?_
        refine vc_reg (by kernel_rfl) fun K hK => ?_
        refine run_n (z := false) 2 (fun K' hK' => hK' _ _ _ ?_) (by decide)
        clear hK' K'
        refine run_ro (fun _ => (41, 0)) ((h43c c5)) ?_ rfl rfl rfl rfl ?_
        · intro x hx
          simp only [List.mem_singleton] at hx
          subst hx
          exact ⟨_, _, _, rfl, get_zero_app⟩
        refine run_end (z := false) fun K' hK' => hK' _ _ _ (hK _ _ _ ?_)
        clear hK' K' hK K
        refine vc_seq ?_
        refine vc_reg (by kernel_rfl) fun K hK => ?_
        refine run_n (z := false) 6 (fun K' hK' => hK' _ _ _ ?_) (by decide)
        clear hK' K'
        refine vgo_known 128 (b := true) (bb (by simp)) ?_
        refine run_n (z := false) 4 (fun K' hK' => hK' _ _ _ ?_) (by decide)
        clear hK' K'
        refine run_call (h42c) rfl rfl rfl rfl ?_
        refine run_end (z := false) fun K' hK' => hK' _ _ _ (hK _ _ _ ?_)
        clear hK' K' hK K
        refine vc_ret ⟨.inr rfl, ?_⟩
        exact fin_bb (decide_eq_true (cmpW_nn (Nat.mul_le_mul_right _ hn2)))
    · skip
      refine vc_reg (by kernel_rfl) fun K hK => ?_
      refine run_n (z := false) 3 (fun K' hK' => hK' _ _ _ ?_) (by decide)
      clear hK' K'
      refine vgo_known 87 (b := false) (bb (by simp)) ?_
      refine run_n (z := false) 6 (fun K' hK' => hK' _ _ _ ?_) (by decide)
      clear hK' K'
      refine vgo_known 93 (b := true) (bb (by simp; omega)) ?_
      refine run_n (z := false) 3 (fun K' hK' => hK' _ _ _ ?_) (by decide)
      clear hK' K'
      refine run_call (h42b) rfl rfl rfl rfl ?_
      refine run_end (z := false) fun K' hK' => hK' _ _ _ (hK _ _ _ ?_)
      clear hK' K' hK K
      refine vc_cond (t := false) (bb (decide_eq_false (cmpW_ng (sc_pred' hw0 hN)))) (fun h => by cases h) (fun _ => ?_)
      refine vc_skip ?_
      refine vc_seq ?_
      rcases weigh_cases l1 t r.w r.each c3 hl1 with ⟨e, he, hee, h68⟩ | ⟨l2, r2, i2, hl2, hq2, hg2, hR2, hw2, hm2, hsc2, hi2, hid2, h68⟩
      · subst hee
        have e131 : weE l1 t r.w r.each = 131 := by
          rw [← hid] at he ⊢
          exact weE_131 (r := wR r m w) hq1 hi1 (rt_wt hrr) (okR_each8 hR) he
        rw [e131] at h68
        refine vc_reg (by kernel_rfl) fun K hK => ?_
        refine run_n (z := false) 8 (fun K' hK' => hK' _ _ _ ?_) (by decide)
        clear hK' K'
        refine run_fc (fun k => if k = 0 then (14, 0) else (35, 0)) h68 (hasF ⟨sf_winp (rcs_plain _) rfl get_zero_app, sf_winp (ics_plain _) rfl get_zero, trivial⟩ rfl) rfl rfl rfl rfl ⟨_, _, rfl, rfl⟩ ?_
        rintro _ _ ⟨rfl, rfl⟩
        refine run_end (z := false) fun K' hK' => hK' _ _ _ (hK _ _ _ ?_)
        clear hK' K' hK K
        refine vc_seq ?_
        refine vc_seq ?_
        refine vc_go (by kernel_rfl) fun K hK => hK _ _ _ ?_
        clear hK K
        refine vc_cond (t := true) (bb (by simp)) (fun _ => ?_) (fun h => by cases h)
        refine vc_seq ?_
        refine vc_go (by kernel_rfl) fun K hK => hK _ _ _ ?_
        clear hK K
        exact vc_ret ⟨.inr rfl, rfl⟩
      · rw [get_at hq1 hi1 hid] at hg2
        cases hg2
        have h43c := fun c => p43 l2 c t (by omega)
        simp only [get_at hq2 hi2 hid] at h43c
        have hge2 : sc r.n w r.w true * r.w ≤ sc (sc r.n w r.w true) r.w w true * w := sc_ge' hw1
        have hn2 : r.n ≤ sc (sc r.n w r.w true) r.w w true := by
          have : r.n * w ≤ sc (sc r.n w r.w true) r.w w true * w := Nat.le_trans hge hge2
          exact Nat.le_of_mul_le_mul_right this hw1
        have h42c := p42y (rt_mk hw2 hsc2) hrr
        refine vc_reg (by kernel_rfl) fun K hK => ?_
        refine run_n (z := false) 8 (fun K' hK' => hK' _ _ _ ?_) (by decide)
        clear hK' K'
        refine run_fc (fun k => if k = 0 then (14, 0) else (35, 0)) h68 (hasF ⟨sf_winp (rcs_plain _) rfl get_zero_app, sf_winp (ics_plain _) rfl get_zero, trivial⟩ rfl) rfl rfl rfl rfl ⟨_, _, 0, [], rfl, rfl, rfl⟩ ?_
        rintro _ _ ⟨c5, sp5, hp5, rfl, rfl⟩
        rw [renU_c (renB_p (plainL_append (rcs_plain _) hp5)) renU_nil]
        refine run_end (z := false) fun K' hK' => hK' _ _ _ (hK _ _ _ ?_)
        clear hK' K' hK K
        refine vc_seq ?_
        refine vc_seq ?_
        refine vc_go (by kernel_rfl) fun K hK => hK _ _ _ ?_
        clear hK K
        refine vc_cond (t := false) (bb (by simp)) (fun h => by cases h) (fun _ => ?_)
        refine vc_skip ?_
        refine vc_seq ?_
        refine vc_reg (by kernel_rfl) fun K hK => ?_
        refine run_n (z := false) 2 (fun K' hK' => hK' _ _ _ ?_) (by decide)
        clear hK' K'
        refine run_ro (fun _ => (41, 0)) ((h43c c5)) ?_ rfl rfl rfl rfl ?_
        · intro x hx
          simp only [List.mem_singleton] at hx
          subst hx
          exact ⟨_, _, _, rfl, get_zero_app⟩
        refine run_end (z := false) fun K' hK' => hK' _ _ _ (hK _ _ _ ?_)
        clear hK' K' hK K
        refine vc_seq ?_
        refine vc_reg (by kernel_rfl) fun K hK => ?_
        refine run_n (z := false) 6 (fun K' hK' => hK' _ _ _ ?_) (by decide)
        clear hK' K'
        refine vgo_known 128 (b := true) (bb (by simp)) ?_
        refine run_n (z := false) 4 (fun K' hK' => hK' _ _ _ ?_) (by decide)
        clear hK' K'
        refine run_call (h42c) rfl rfl rfl rfl ?_
        refine run_end (z := false) fun K' hK' => hK' _ _ _ (hK _ _ _ ?_)
        clear hK' K' hK K
        refine vc_ret ⟨.inr rfl, ?_⟩
        exact fin_bb (decide_eq_true (cmpW_nn (Nat.mul_le_mul_right _ hn2)))
theorem p17nil (t : Int) (w : Nat) (m : Int) : Pure 17 [qnil, .int .i64 t, .agg #[u64 w, .int .i64 m]] (.bool true) := by
  refine pure_of Try.func17 rfl Try.ntmps17 (by kernel_rfl) rfl (by simp) rfl ?_
  refine vc_seq ?_
  refine vc_go (by kernel_rfl) fun K hK => hK _ _ _ ?_
  clear hK K
  refine vc_seq ?_
  refine vc_seq ?_
  refine vc_reg (by kernel_rfl) fun K hK => ?_
  refine run_call (p38) rfl rfl rfl rfl ?_
  refine run_end (z := false) fun K' hK' => hK' _ _ _ (hK _ _ _ ?_)
  clear hK' K' hK K
  refine vc_cond (t := false) rfl (fun h => by cases h) (fun _ => ?_)
  refine vc_skip ?_
  refine vc_seq ?_
  refine vc_regD [(1, 3), (1, 5), (0, 6), (1, 6), (3, 6), (5, 6), (3, 7), (5, 7)] (by kernel_rfl) (by kernel_rfl) fun K hK => ?_
  refine runD_n (z := false) 1 (fun K' hK' => hK' _ _ _ _ ?_) (by decide)
  clear hK' K'
  refine runD_fc (fun k => (k, 0)) p39nil (hasF trivial rfl) rfl rfl rfl rfl ⟨_, _, rfl, rfl⟩ (by rintro _ _ ⟨rfl, rfl⟩; rfl) ?_
  rintro _ _ ⟨rfl, rfl⟩
  refine runD_end (z := false) fun K' hK' => hK' _ _ _ _ (hK _ _ _ ?_)
  clear hK' K' hK K
  obtain ⟨c2, hc2⟩ : ∃ c2, c2 = 0 := ⟨_, rfl⟩
  obtain ⟨l, hll⟩ : ∃ l : List Rn, l = [] := ⟨_, rfl⟩
  have hl : l.length ≤ 17 := by rw [hll]; decide
  refine renF (fun k => if k = 0 then 8 else 3) [(1, .int .i64 t), (6, .bool false), (7, .pointer (some ⟨0, 0, none⟩)), (8, u64 w), (9, .int .i64 m)] [(0, .cells [.slice (some ⟨1, 0, none⟩) l.length c2] 55 true), (1, .cells (rws rc l) 67 false)] 2 (by decide) (fun m hm => absurd hm (Nat.not_lt_zero m)) ⟨rfl, rfl, rfl, rfl, rfl, trivial⟩ (by subst hll; subst hc2; exact ⟨sf_own rfl rfl, sf_winp (rcs_plain _) rfl get_zero, trivial⟩) rfl (bdH_b (by decide) rfl (bdH_c (by decide) (rcs_plain l) rfl)) rfl ?_
  refine vc_seq ?_
  rcases weigh_cases l t w m c2 hl with ⟨e, he, hee, h68⟩ | ⟨l1, r, i1, hl1, hq1, hg, hR, hw, hm, hsc, hi1, hid, h68⟩
  · have h43 := p43 l c2 t (by omega)
    refine vc_reg (by kernel_rfl) fun K hK => ?_
    refine run_n (z := false) 2 (fun K' hK' => hK' _ _ _ ?_) (by decide)
    clear hK' K'
    refine run_ro (fun _ => (1, 0)) (h43) ?_ rfl rfl rfl rfl ?_
    · intro x hx
      simp only [List.mem_singleton] at hx
      subst hx
      exact ⟨_, _, _, rfl, fun i v hv => by rw [Nat.zero_add]; exact hv⟩
    refine run_end (z := false) fun K' hK' => hK' _ _ _ (hK _ _ _ ?_)
    clear hK' K' hK K
    refine vc_seq ?_
    refine vc_reg (by kernel_rfl) fun K hK => ?_
    refine run_n (z := false) 5 (fun K' hK' => hK' _ _ _ ?_) (by decide)
    clear hK' K'
    refine run_fc (fun k => if k = 0 then (1, 0) else (11, 0)) h68 (hasF ⟨sf_winp (rcs_plain _) rfl get_zero, sf_winp (ics_plain _) rfl get_zero, trivial⟩ rfl) rfl rfl rfl rfl ⟨_, _, rfl, rfl⟩ ?_
    rintro _ _ ⟨rfl, rfl⟩
    refine run_end (z := false) fun K' hK' => hK' _ _ _ (hK _ _ _ ?_)
    clear hK' K' hK K
    refine vc_seq ?_
    refine vc_seq ?_
    refine vc_reg (by kernel_rfl) fun K hK => ?_
    refine run_n (z := false) 3 (fun K' hK' => hK' _ _ _ ?_) (by decide)
    clear hK' K'
    refine vgo_known 46 (b := true) (bb (bne_iff_ne.2 he)) ?_
    refine run_end (z := false) fun K' hK' => hK' _ _ _ (hK _ _ _ ?_)
    clear hK' K' hK K
    refine vc_cond (t := true) rfl (fun _ => ?_) (fun h => by cases h)
    refine vc_seq ?_
    refine vc_go (by kernel_rfl) fun K hK => hK _ _ _ ?_
    clear hK K
    exact vc_ret ⟨.inr rfl, rfl⟩
  · have h43 := p43 l c2 t (by omega)
    simp only [hg] at h43
    have h43b := fun c => p43 l1 c t (by omega)
    simp only [get_at hq1 hi1 hid] at h43b
    have hrr : rt r.n r.w = true := okR_rt hR
    have hr' : rt (sc r.n w r.w true) w = true := rt_mk hw hsc
    have hw0 : 0 < r.w := (rt_w hrr).1
    have hw1 : 0 < w := (wt_w hw).1
    have hge : r.n * w ≤ sc r.n w r.w true * r.w := sc_ge' hw0
    have h42a := p42y hr' hrr
    have h62 := p62y (k := 1) hr' (by decide)
    have h42b := p42y (rt_less 1 hr') hrr
    refine vc_reg (by kernel_rfl) fun K hK => ?_
    refine run_n (z := false) 2 (fun K' hK' => hK' _ _ _ ?_) (by decide)
    clear hK' K'
    refine run_ro (fun _ => (1, 0)) (h43) ?_ rfl rfl rfl rfl ?_
    · intro x hx
      simp only [List.mem_singleton] at hx
      subst hx
      exact ⟨_, _, _, rfl, fun i v hv => by rw [Nat.zero_add]; exact hv⟩
    refine run_end (z := false) fun K' hK' => hK' _ _ _ (hK _ _ _ ?_)
    clear hK' K' hK K
    refine vc_seq ?_
    refine vc_reg (by kernel_rfl) fun K hK => ?_
    refine run_n (z := false) 5 (fun K' hK' => hK' _ _ _ ?_) (by decide)
    clear hK' K'
    refine run_fc (fun k => if k = 0 then (1, 0) else (11, 0)) h68 (hasF ⟨sf_winp (rcs_plain _) rfl get_zero, sf_winp (ics_plain _) rfl get_zero, trivial⟩ rfl) rfl rfl rfl rfl ⟨_, _, 0, [], rfl, rfl, rfl⟩ ?_
    rintro _ _ ⟨c3, sp3, hp3, rfl, rfl⟩
    rw [renU_c (renB_p (plainL_append (rcs_plain _) hp3)) renU_nil]
    refine run_end (z := false) fun K' hK' => hK' _ _ _ (hK _ _ _ ?_)
    clear hK' K' hK K
    refine refocusF [(1, .int .i64 t), (6, .bool false), (8, u64 w), (9, .int .i64 m), (10, .pointer (some ⟨8, 0, none⟩)), (11, .bool true), (12, .pointer (some ⟨18, 0, none⟩)), (13, .int .i64 0)] [(8, .cells (rc r) 67 true), (14, .cells (rws rc l1 ++ sp3) 67 true), (18, .cells [.slice (some ⟨14, 0, none⟩) l1.length c3] 55 true)] 19 (by decide) ⟨rfl, rfl, rfl, rfl, rfl, rfl, rfl, rfl, trivial⟩ ⟨sb rfl, sb rfl, sb rfl, trivial⟩ rfl (bdH_c (by decide) (rc_plain r) (bdH_c (by decide) (plainL_append (rcs_plain _) hp3) (bdH_b (by decide) rfl rfl))) ?_
    refine vc_seq ?_
    refine vc_seq ?_
    refine vc_reg (by kernel_rfl) fun K hK => ?_
    refine run_n (z := false) 3 (fun K' hK' => hK' _ _ _ ?_) (by decide)
    clear hK' K'
    refine vgo_known 46 (b := false) (bb (by simp)) ?_
    refine run_end (z := false) fun K' hK' => hK' _ _ _ (hK _ _ _ ?_)
    clear hK' K' hK K
    refine vc_cond (t := false) rfl (fun h => by cases h) (fun _ => ?_)
    refine vc_skip ?_
    refine vc_seq ?_
    refine vc_reg (by kernel_rfl) fun K hK => ?_
    refine run_n (z := false) 2 (fun K' hK' => hK' _ _ _ ?_) (by decide)
    clear hK' K'
    refine run_ro (fun _ => (14, 0)) ((h43b c3)) ?_ rfl rfl rfl rfl ?_
    · intro x hx
      simp only [List.mem_singleton] at hx
      subst hx
      exact ⟨_, _, _, rfl, get_zero_app⟩
    refine run_end (z := false) fun K' hK' => hK' _ _ _ (hK _ _ _ ?_)
    clear hK' K' hK K
    refine refocusF [(1, .int .i64 t), (6, .bool false), (8, u64 w), (9, .int .i64 m), (10, .pointer (some ⟨8, 0, none⟩)), (12, .pointer (some ⟨18, 0, none⟩)), (14, .pointer (some ⟨25, 0, none⟩))] [(8, .cells (rc r) 67 true), (14, .cells (rws rc l1 ++ sp3) 67 true), (18, .cells [.slice (some ⟨14, 0, none⟩) l1.length c3] 55 true), (25, .cells (rc (wR r m w)) 67 true)] 26 (by decide) ⟨rfl, rfl, rfl, rfl, rfl, rfl, rfl, trivial⟩ ⟨sb rfl, sb rfl, sb rfl, sb rfl, trivial⟩ rfl (bdH_c (by decide) (rc_plain r) (bdH_c (by decide) (plainL_append (rcs_plain _) hp3) (bdH_b (by decide) rfl (bdH_c (by decide) (rc_plain _) rfl)))) ?_
    refine vc_seq ?_
    refine vc_seq ?_
    refine vc_reg (by kernel_rfl) fun K hK => ?_
    refine run_n (z := false) 6 (fun K' hK' => hK' _ _ _ ?_) (by decide)
    clear hK' K'
    refine vgo_known 65 (b := false) (bb (by simp)) ?_
    refine run_n (z := false) 6 (fun K' hK' => hK' _ _ _ ?_) (by decide)
    clear hK' K'
    refine vgo_known 71 (b := false) (bb (by simp)) ?_
    refine run_n (z := false) 4 (fun K' hK' => hK' _ _ _ ?_) (by decide)
    clear hK' K'
    refine run_call (h42a) rfl rfl rfl rfl ?_
    refine run_end (z := false) fun K' hK' => hK' _ _ _ (hK _ _ _ ?_)
    clear hK' K' hK K
    refine vc_cond (t := false) (bb (decide_eq_false (by have := cmpW_nn hge; omega))) (fun h => by cases h) (fun _ => ?_)
    refine vc_skip ?_
    refine vc_seq ?_
    refine vc_seq ?_
    refine vc_reg (by kernel_rfl) fun K hK => ?_
    refine run_n (z := false) 2 (fun K' hK' => hK' _ _ _ ?_) (by decide)
    clear hK' K'
    refine run_call (h62) rfl rfl rfl rfl ?_
    refine run_end (z := false) fun K' hK' => hK' _ _ _ (hK _ _ _ ?_)
    clear hK' K' hK K
    refine vc_seq ?_
    by_cases hN : sc r.n w r.w true = 0
    · skip
      refine vc_reg (by kernel_rfl) fun K hK => ?_
      refine run_n (z := false) 3 (fun K' hK' => hK' _ _ _ ?_) (by decide)
      clear hK' K'
      refine vgo_known 87 (b := false) (bb (by simp)) ?_
      refine run_n (z := false) 6 (fun K' hK' => hK' _ _ _ ?_) (by decide)
      clear hK' K'
      refine vgo_known 93 (b := false) (bb (by simp [hN])) ?_
      refine run_end (z := false) fun K' hK' => hK' _ _ _ (hK _ _ _ ?_)
      clear hK' K' hK K
      refine vc_cond (t := false) rfl (fun h => by cases h) (fun _ => ?_)
      refine vc_skip ?_
      refine vc_seq ?_
      rcases weigh_cases l1 t r.w r.each c3 hl1 with ⟨e, he, hee, h68⟩ | ⟨l2, r2, i2, hl2, hq2, hg2, hR2, hw2, hm2, hsc2, hi2, hid2, h68⟩
      · subst hee
        have e131 : weE l1 t r.w r.each = 131 := by
          rw [← hid] at he ⊢
          exact weE_131 (r := wR r m w) hq1 hi1 (rt_wt hrr) (okR_each8 hR) he
        rw [e131] at h68
        refine vc_reg (by kernel_rfl) fun K hK => ?_
        refine run_n (z := false) 8 (fun K' hK' => hK' _ _ _ ?_) (by decide)
        clear hK' K'
        refine run_fc (fun k => if k = 0 then (14, 0) else (35, 0)) h68 (hasF ⟨sf_winp (rcs_plain _) rfl get_zero_app, sf_winp (ics_plain _) rfl get_zero, trivial⟩ rfl) rfl rfl rfl rfl ⟨_, _, rfl, rfl⟩ ?_
        rintro _ _ ⟨rfl, rfl⟩
        refine run_end (z := false) fun K' hK' => hK' _ _ _ (hK _ _ _ ?_)
        clear hK' K' hK K
        refine vc_seq ?_
        refine vc_seq ?_
        refine vc_go (by kernel_rfl) fun K hK => hK _ _ _ ?_
        clear hK K
        refine vc_cond (t := true) (bb (by simp)) (fun _ => ?_) (fun h => by cases h)
        refine vc_seq ?_
        refine vc_go (by kernel_rfl) fun K hK => hK _ _ _ ?_
        clear hK K
        exact vc_ret ⟨.inr rfl, rfl⟩
      · rw [get_at hq1 hi1 hid] at hg2
        cases hg2
        have h43c := fun c => p43 l2 c t (by omega)
        simp only [get_at hq2 hi2 hid] at h43c
        have hge2 : sc r.n w r.w true * r.w ≤ sc (sc r.n w r.w true) r.w w true * w := sc_ge' hw1
        have hn2 : r.n ≤ sc (sc r.n w r.w true) r.w w true := by
          have : r.n * w ≤ sc (sc r.n w r.w true) r.w w true * w := Nat.le_trans hge hge2
          exact Nat.le_of_mul_le_mul_right this hw1
        have h42c := p42y (rt_mk hw2 hsc2) hrr
        refine vc_reg (by kernel_rfl) fun K hK => ?_
        refine run_n (z := false) 8 (fun K' hK' => hK' _ _ _ ?_) (by decide)
        clear hK' K'
        refine run_fc (fun k => if k = 0 then (14, 0) else (35, 0)) h68 (hasF ⟨sf_winp (rcs_plain _) rfl get_zero_app, sf_winp (ics_plain _) rfl get_zero, trivial⟩ rfl) rfl rfl rfl rfl ⟨_, _, 0, [], rfl, rfl, rfl⟩ ?_
        rintro _ _ ⟨c5, sp5, hp5, rfl, rfl⟩
        rw [renU_c (renB_p (plainL_append (rcs_plain _) hp5)) renU_nil]
        refine run_end (z := false) fun K' hK' => hK' _ _ _ (hK _ _ _ ?_)
        clear hK' K' hK K
        refine vc_seq ?_
        refine vc_seq ?_
        refine vc_go (by kernel_rfl) fun K hK => hK _ _ _ ?_
        clear hK K
        refine vc_cond (t := false) (bb (by simp)) (fun h => by cases h) (fun _ => ?_)
        refine vc_skip ?_
        refine vc_seq ?_
        refine vc_reg (by kernel_rfl) fun K hK => ?_
        refine run_n (z := false) 2 (fun K' hK' => hK' _ _ _ ?_) (by decide)
        clear hK' K'
        refine run_ro (fun _ => (41, 0)) ((h43c c5)) ?_ rfl rfl rfl rfl ?_
        · intro x hx
          simp only [List.mem_singleton] at hx
          subst hx
          exact ⟨_, _, _, rfl, get_zero_app⟩
        refine run_end (z := false) fun K' hK' => hK' _ _ _ (hK _ _ _ ?_)
        clear hK' K' hK K
        refine vc_seq ?_
        refine vc_reg (by kernel_rfl) fun K hK => ?_
        refine run_n (z := false) 6 (fun K' hK' => hK' _ _ _ ?_) (by decide)
        clear hK' K'
        refine vgo_known 128 (b := true) (bb (by simp)) ?_
        refine run_n (z := false) 4 (fun K' hK' => hK' _ _ _ ?_) (by decide)
        clear hK' K'
        refine run_call (h42c) rfl rfl rfl rfl ?_
        refine run_end (z := false) fun K' hK' => hK' _ _ _ (hK _ _ _ ?_)
        clear hK' K' hK K
        refine vc_ret ⟨.inr rfl, ?_⟩
        exact fin_bb (decide_eq_true (cmpW_nn (Nat.mul_le_mul_right _ hn2)))
    · skip
      refine vc_reg (by kernel_rfl) fun K hK => ?_
      refine run_n (z := false) 3 (fun K' hK' => hK' _ _ _ ?_) (by decide)
      clear hK' K'
      refine vgo_known 87 (b := false) (bb (by simp)) ?_
      refine run_n (z := false) 6 (fun K' hK' => hK' _ _ _ ?_) (by decide)
      clear hK' K'
      refine vgo_known 93 (b := true) (bb (by simp; omega)) ?_
      refine run_n (z := false) 3 (fun K' hK' => hK' _ _ _ ?_) (by decide)
      clear hK' K'
      refine run_call (h42b) rfl rfl rfl rfl ?_
      refine run_end (z := false) fun K' hK' => hK' _ _ _ (hK _ _ _ ?_)
      clear hK' K' hK K
      refine vc_cond (t := false) (bb (decide_eq_false (cmpW_ng (sc_pred' hw0 hN)))) (fun h => by cases h) (fun _ => ?_)
      refine vc_skip ?_
      refine vc_seq ?_
      rcases weigh_cases l1 t r.w r.each c3 hl1 with ⟨e, he, hee, h68⟩ | ⟨l2, r2, i2, hl2, hq2, hg2, hR2, hw2, hm2, hsc2, hi2, hid2, h68⟩
      · subst hee
        have e131 : weE l1 t r.w r.each = 131 := by
          rw [← hid] at he ⊢
          exact weE_131 (r := wR r m w) hq1 hi1 (rt_wt hrr) (okR_each8 hR) he
        rw [e131] at h68
        refine vc_reg (by kernel_rfl) fun K hK => ?_
        refine run_n (z := false) 8 (fun K' hK' => hK' _ _ _ ?_) (by decide)
        clear hK' K'
        refine run_fc (fun k => if k = 0 then (14, 0) else (35, 0)) h68 (hasF ⟨sf_winp (rcs_plain _) rfl get_zero_app, sf_winp (ics_plain _) rfl get_zero, trivial⟩ rfl) rfl rfl rfl rfl ⟨_, _, rfl, rfl⟩ ?_
        rintro _ _ ⟨rfl, rfl⟩
        refine run_end (z := false) fun K' hK' => hK' _ _ _ (hK _ _ _ ?_)
        clear hK' K' hK K
        refine vc_seq ?_
        refine vc_seq ?_
        refine vc_go (by kernel_rfl) fun K hK => hK _ _ _ ?_
        clear hK K
        refine vc_cond (t := true) (bb (by simp)) (fun _ => ?_) (fun h => by cases h)
        refine vc_seq ?_
        refine vc_go (by kernel_rfl) fun K hK => hK _ _ _ ?_
        clear hK K
        exact vc_ret ⟨.inr rfl, rfl⟩
      · rw [get_at hq1 hi1 hid] at hg2
        cases hg2
        have h43c := fun c => p43 l2 c t (by omega)
        simp only [get_at hq2 hi2 hid] at h43c
        have hge2 : sc r.n w r.w true * r.w ≤ sc (sc r.n w r.w true) r.w w true * w := sc_ge' hw1
        have hn2 : r.n ≤ sc (sc r.n w r.w true) r.w w true := by
          have : r.n * w ≤ sc (sc r.n w r.w true) r.w w true * w := Nat.le_trans hge hge2
          exact Nat.le_of_mul_le_mul_right this hw1
        have h42c := p42y (rt_mk hw2 hsc2) hrr
        refine vc_reg (by kernel_rfl) fun K hK => ?_
        refine run_n (z := false) 8 (fun K' hK' => hK' _ _ _ ?_) (by decide)
        clear hK' K'
        refine run_fc (fun k => if k = 0 then (14, 0) else (35, 0)) h68 (hasF ⟨sf_winp (rcs_plain _) rfl get_zero_app, sf_winp (ics_plain _) rfl get_zero, trivial⟩ rfl) rfl rfl rfl rfl ⟨_, _, 0, [], rfl, rfl, rfl⟩ ?_
        rintro _ _ ⟨c5, sp5, hp5, rfl, rfl⟩
        rw [renU_c (renB_p (plainL_append (rcs_plain _) hp5)) renU_nil]
        refine run_end (z := false) fun K' hK' => hK' _ _ _ (hK _ _ _ ?_)
        clear hK' K' hK K
        refine vc_seq ?_
        refine vc_seq ?_
        refine vc_go (by kernel_rfl) fun K hK => hK _ _ _ ?_
        clear hK K
        refine vc_cond (t := false) (bb (by simp)) (fun h => by cases h) (fun _ => ?_)
        refine vc_skip ?_
        refine vc_seq ?_
        refine vc_reg (by kernel_rfl) fun K hK => ?_
        refine run_n (z := false) 2 (fun K' hK' => hK' _ _ _ ?_) (by decide)
        clear hK' K'
        refine run_ro (fun _ => (41, 0)) ((h43c c5)) ?_ rfl rfl rfl rfl ?_
        · intro x hx
          simp only [List.mem_singleton] at hx
          subst hx
          exact ⟨_, _, _, rfl, get_zero_app⟩
        refine run_end (z := false) fun K' hK' => hK' _ _ _ (hK _ _ _ ?_)
        clear hK' K' hK K
        refine vc_seq ?_
        refine vc_reg (by kernel_rfl) fun K hK => ?_
        refine run_n (z := false) 6 (fun K' hK' => hK' _ _ _ ?_) (by decide)
        clear hK' K'
        refine vgo_known 128 (b := true) (bb (by simp)) ?_
        refine run_n (z := false) 4 (fun K' hK' => hK' _ _ _ ?_) (by decide)
        clear hK' K'
        refine run_call (h42c) rfl rfl rfl rfl ?_
        refine run_end (z := false) fun K' hK' => hK' _ _ _ (hK _ _ _ ?_)
        clear hK' K' hK K
        refine vc_ret ⟨.inr rfl, ?_⟩
        exact fin_bb (decide_eq_true (cmpW_nn (Nat.mul_le_mul_right _ hn2)))
end Go.Proofs.Ytdfkcijholopoaa.Vm
