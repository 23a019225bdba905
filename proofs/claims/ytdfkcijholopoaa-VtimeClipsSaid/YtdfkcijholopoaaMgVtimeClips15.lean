/- What the proofs stand on, in one text: Pb. -/
import Derived.Test.YtdfkcijholopoaaMgVtimeClips14
namespace Go.Proofs.Ytdfkcijholopoaa.Vm
open Go Go.RowKit
set_option maxRecDepth 10000
set_option linter.unusedSimpArgs false
set_option linter.unusedVariables false


theorem fc_mono {g : FuncId} {vs : List Value} {n : Nat} {hp : List (Nat × Blk)} {Out Out' : Value → List (Nat × Blk) → Prop} (h : FC g vs n hp Out) (ho : ∀ v u, Out v u → Out' v u) : FC g vs n hp Out' :=
  ⟨h.good, fun M ρ h0 w f m vs' h1 h2 h3 h4 => Calls.mono (h.calls M ρ h0 w f m vs' h1 h2 h3 h4) fun e w' ⟨v, v', u, ρ', k1, k2⟩ => ⟨v, v', u, ρ', ho v u k1, k2⟩⟩
theorem frd {x n w : Nat} (h : x ≠ n) : (!((((x / 2 ^ 64 : Nat) : Int) == ((n / 2 ^ 64 : Nat) : Int)) && (((x % 2 ^ 64 : Nat) : Int) == ((n % 2 ^ 64 : Nat) : Int)) && ((w : Int) == (w : Int)))) = true := by
  rw [Bool.not_eq_true', Bool.and_eq_false_iff, Bool.and_eq_false_iff, beq_eq_false_iff_ne, beq_eq_false_iff_ne]
  left
  rcases Nat.lt_or_ge (x / 2 ^ 64) (n / 2 ^ 64) with h1 | h1
  · exact .inl (by omega)
  · rcases Nat.lt_or_ge (n / 2 ^ 64) (x / 2 ^ 64) with h2 | h2
    · exact .inl (by omega)
    · right
      have := Nat.div_add_mod x (2 ^ 64)
      have := Nat.div_add_mod n (2 ^ 64)
      intro e
      have e1 : x / 2 ^ 64 = n / 2 ^ 64 := by omega
      have e2 : x % 2 ^ 64 = n % 2 ^ 64 := by omega
      rw [e1, e2] at *
      omega
/-- The queue when i runners have been looked at. -/
def cur (x : Nat × Nat) (l : List Rn) (i : Nat) : List Rn := clQ x (l.take i) ++ l.drop i
theorem cur_zero (x : Nat × Nat) (l : List Rn) : cur x l 0 = l := rfl
theorem cur_all (x : Nat × Nat) (l : List Rn) : cur x l l.length = clQ x l := by simp [cur]
theorem cur_len (x : Nat × Nat) (l : List Rn) (i : Nat) : (cur x l i).length = l.length := by simp [cur, clQ_len]; omega
theorem cur_get {x : Nat × Nat} {l : List Rn} {i : Nat} {r : Rn} (h : l[i]? = some r) : (cur x l i)[i]? = some r := by
  have hi := (List.getElem?_eq_some_iff.1 h).1
  have hl : (clQ x (l.take i)).length = i := by rw [clQ_len, List.length_take]; omega
  rw [cur, List.getElem?_append_right (by omega), hl, Nat.sub_self, drop_cons h]
  rfl
theorem cur_next {x : Nat × Nat} {l : List Rn} {i : Nat} {r : Rn} (h : l[i]? = some r) : cur x l (i + 1) = clQ x (l.take i) ++ clR x r :: l.drop (i + 1) := by
  have : l.take (i + 1) = l.take i ++ [r] := by rw [List.take_add_one, h]; rfl
  rw [cur, this, clQ, List.map_append]
  simp [clQ]
theorem cur_no {x : Nat × Nat} {l : List Rn} {i : Nat} {r : Rn} (h : l[i]? = some r) (hg : clG x r = false) : cur x l i = cur x l (i + 1) := by
  rw [cur_next h, clR_no hg, cur, drop_cons h]
theorem cur_set {x : Nat × Nat} {l : List Rn} {i : Nat} {r : Rn} (h : l[i]? = some r) (hg : clG x r = true) : (cur x l i).set i { r with n := farN x.1 x.2 r.w } = cur x l (i + 1) := by
  have hi := (List.getElem?_eq_some_iff.1 h).1
  have hl : (clQ x (l.take i)).length = i := by rw [clQ_len, List.length_take]; omega
  rw [cur_next h, clR_yes hg, cur, drop_cons h, List.set_append_right _ _ (by omega), hl, Nat.sub_self]
  rfl
theorem cl3 (x : Nat × Nat) (r : Rn) : clG x r = false ∨ (clG x r = true ∧ farN x.1 x.2 r.w < 2 ^ 100) ∨ (clG x r = true ∧ ¬ farN x.1 x.2 r.w < 2 ^ 100) := by
  cases h : clG x r
  · exact .inl rfl
  · by_cases h2 : farN x.1 x.2 r.w < 2 ^ 100
    · exact .inr (.inl ⟨rfl, h2⟩)
    · exact .inr (.inr ⟨rfl, h2⟩)
theorem nb_next {x : Nat × Nat} {l : List Rn} {i : Nat} {r : Rn} (h : l[i]? = some r) (hn : ∀ s ∈ l.take i, clB x s = false) (hr : clB x r = false) : ∀ s ∈ l.take (i + 1), clB x s = false := by
  intro s hs
  rw [List.take_add_one, h] at hs
  rcases List.mem_append.1 hs with hs | hs
  · exact hn s hs
  · simp at hs; subst hs; exact hr
theorem topS_isSome : ∀ {l : List Rn} {y : Nat × Nat}, ∃ x, topS (some y) l = some x
  | [], y => ⟨y, rfl⟩
  | _ :: l, _ => topS_isSome (l := l)
theorem top_in {l : List Rn} {r : Rn} (hq : okq 0 l = true) (hr : r ∈ l) : topS none l = some (accV (topS none l)) ∧ rt (accV (topS none l)).1 (accV (topS none l)).2 = true := by
  obtain ⟨x, hx⟩ : ∃ x, topS none l = some x := by
    cases l with
    | nil => cases hr
    | cons a l => exact topS_isSome (l := l)
  rw [hx]
  exact ⟨rfl, topS_rt (okq_mem hq) (fun x h => by cases h) x hx⟩
/-- What the closure leaves: nobody's number told yet, or these. -/
def U0 (l : List Rn) (c : Nat) (sp : List Value) : List (Nat × Blk) := [(0, .cells [.slice (some ⟨1, 0, none⟩) l.length c] 55 true), (1, .cells (rws rc l ++ sp) 67 true), (2, .cells [.slice none 0 0] 61 true)]
def U1 (l : List Rn) (c : Nat) (sp : List Value) (Q : List Int) (c3 : Nat) (sp3 : List Value) : List (Nat × Blk) := [(0, .cells [.slice (some ⟨1, 0, none⟩) l.length c] 55 true), (1, .cells (rws rc l ++ sp) 67 true), (2, .cells [.slice (some ⟨3, 0, none⟩) Q.length c3] 61 true), (3, .cells (rws ic Q ++ sp3) 3 true)]
def Out89 (x : Nat × Nat) (l : List Rn) (c : Nat) (sp : List Value) : Value → List (Nat × Blk) → Prop := fun v u =>
  ((∃ r ∈ l, clB x r = true) ∧ v = .int .i64 131 ∧ ∃ l2 : List Rn, l2.length = l.length ∧ (u = U0 l2 c sp ∨ ∃ Q c3 sp3, plainL sp3 = true ∧ u = U1 l2 c sp Q c3 sp3)) ∨
  ((∀ r ∈ l, clB x r = false) ∧ v = .int .i64 0 ∧ ((clI x l = [] ∧ u = U0 (clQ x l) c sp) ∨ (clI x l ≠ [] ∧ ∃ c3 sp3, plainL sp3 = true ∧ u = U1 (clQ x l) c sp (clI x l) c3 sp3)))


theorem sbu_eq0 {s : St} {F : Nat → Nat × Nat} {k m n n' c : Nat} {t : TypeId} (e : s.h (F k).1 = some (.cells (renL F [.slice (some ⟨m, 0, none⟩) n c]) t true)) (hn : n' = n) : SbU s F k (.cells [.slice (some ⟨m, 0, none⟩) n' c] t true) := by subst hn; exact sbu' e


theorem p89 {l : List Rn} {c : Nat} {sp : List Value} (hl : l.length ≤ 900) (hc : l.length ≤ c) (hsp : plainL sp = true) (hq : okq 0 l = true) : FC 89 [.pointer (some ⟨0, 0, none⟩), .pointer (some ⟨2, 0, none⟩)] 3 [(0, .cells [.slice (some ⟨1, 0, none⟩) l.length c] 55 true), (1, .cells (rws rc l ++ sp) 67 true), (2, .cells [.slice none 0 0] 61 true)] (Out89 (accV (topS none l)) l c sp) := by
  have h87 := p87 (l := l) c (by omega) hq
  obtain ⟨x, hx⟩ : ∃ x, x = accV (topS none l) := ⟨_, rfl⟩
  rw [← hx] at h87 ⊢
  refine fc_of [(0, .cells [.slice (some ⟨1, 0, none⟩) l.length c] 55 true), (1, .cells (rws rc l ++ sp) 67 true), (2, .cells [.slice none 0 0] 61 true)] 3 Try.func89 rfl Try.ntmps89 (by kernel_rfl) (by simp) rfl (bdH_b (by decide) rfl (bdH_c (by decide) (plainL_append (rcs_plain _) hsp) (bdH_b (by decide) rfl rfl))) (hall_of rfl) ?_
  refine vc_seq ?_
  refine vc_go (by kernel_rfl) fun K hK => hK _ _ _ ?_
  clear hK K
  refine vc_seq ?_
  refine vc_reg (by kernel_rfl) fun K hK => ?_
  refine run_n (z := false) 3 (fun K' hK' => hK' _ _ _ ?_) (by decide)
  clear hK' K'
  refine run_ro (fun _ => (1, 0)) (h87) ?_ rfl rfl rfl rfl ?_
  · intro x hx
    simp only [List.mem_singleton] at hx
    subst hx
    exact ⟨_, _, _, rfl, get_zero_app⟩
  refine run_end (z := false) fun K' hK' => hK' _ _ _ (hK _ _ _ ?_)
  clear hK' K' hK K
  refine vc_seq ?_
  refine vc_seq ?_
  refine vc_go (by kernel_rfl) fun K hK => hK _ _ _ ?_
  clear hK K
  refine vc_block ?_
  refine vc_loopF (fun n s => ∃ (i : Nat), n = l.length - i ∧ i ≤ l.length ∧ (∀ r ∈ l.take i, clB x r = false) ∧ ((clI x (l.take i) = [] ∧ s = can [(0, .pointer (some ⟨0, 0, none⟩)), (1, .pointer (some ⟨2, 0, none⟩)), (4, .pointer (some ⟨3, 0, none⟩)), (20, .slice (some ⟨1, 0, none⟩) l.length c), (21, .int .i64 (l.length : Int)), (22, .int .i64 ((i : Nat) : Int))] [(0, .cells [.slice (some ⟨1, 0, none⟩) l.length c] 55 true), (1, .cells (rws rc (cur x l i) ++ sp) 67 true), (2, .cells [.slice none 0 0] 61 true), (3, .cells (frc x.1 x.2) 58 true)] 4) ∨ ∃ (Q : List Int) (k cap : Nat) (sp2 : List Value), clI x (l.take i) = Q ∧ Q.length = k ∧ 0 < k ∧ k ≤ 900 ∧ k ≤ cap ∧ plainL sp2 = true ∧ sp2.length = cap - k ∧ s = can [(0, .pointer (some ⟨0, 0, none⟩)), (1, .pointer (some ⟨2, 0, none⟩)), (4, .pointer (some ⟨3, 0, none⟩)), (20, .slice (some ⟨1, 0, none⟩) l.length c), (21, .int .i64 (l.length : Int)), (22, .int .i64 ((i : Nat) : Int))] [(0, .cells [.slice (some ⟨1, 0, none⟩) l.length c] 55 true), (1, .cells (rws rc (cur x l i) ++ sp) 67 true), (2, .cells [.slice (some ⟨4, 0, none⟩) k cap] 61 true), (3, .cells (frc x.1 x.2) 58 true), (4, .cells (rws ic Q ++ sp2) 3 true)] 5)) l.length ?_ ?_
  · exact ⟨_, fg_ren (fun k => if k = 3 then 10 else k) [(0, .pointer (some ⟨0, 0, none⟩)), (1, .pointer (some ⟨2, 0, none⟩)), (4, .pointer (some ⟨3, 0, none⟩)), (20, .slice (some ⟨1, 0, none⟩) l.length c), (21, .int .i64 (l.length : Int)), (22, .int .i64 ((0 : Nat) : Int))] [(0, .cells [.slice (some ⟨1, 0, none⟩) l.length c] 55 true), (1, .cells (rws rc (cur x l 0) ++ sp) 67 true), (2, .cells [.slice none 0 0] 61 true), (3, .cells (frc x.1 x.2) 58 true)] 4 (by decide) (fun m hm => if_neg (by omega)) ⟨rfl, rfl, rfl, rfl, rfl, rfl, trivial⟩ ⟨sf_own rfl rfl, sf_eq (plainL_append (rcs_plain _) hsp) rfl rfl rfl, sf_own rfl rfl, sf_ownp (by rfl) rfl rfl, trivial⟩ rfl (bdH_b (by decide) rfl (bdH_c (by decide) (plainL_append (rcs_plain _) hsp) (bdH_b (by decide) rfl (bdH_c (by decide) (by rfl) rfl)))) rfl, 0, rfl, Nat.zero_le _, fun r hr => (by cases hr), .inl ⟨rfl, rfl⟩⟩
  · rintro n s ⟨i, hn, hi, hnb, ⟨hnil, rfl⟩ | ⟨Q, k, cap, sp2, hQe, hQ, hk0, hk9, hkc, hp2, hsl, rfl⟩⟩
    · skip
      refine vc_seq ?_
      refine vc_go (by kernel_rfl) fun K hK => hK _ _ _ ?_
      clear hK K
      refine vc_seq ?_
      refine vc_cond rfl (fun c0 => ?_) (fun c0 => ?_)
      · -- cond 0 t23 true
        refine vc_skip ?_
        refine vc_seq ?_
        refine vc_block ?_
        refine vc_seq ?_
        have hlt := len_le c0
        obtain ⟨r, hr⟩ : ∃ r, l[i]? = some r := ⟨l[i], List.getElem?_eq_getElem hlt⟩
        have hM := cur_get (x := x) hr
        have hrl := List.mem_of_getElem? hr
        obtain ⟨_, hxr⟩ := top_in hq hrl
        rw [← hx] at hxr
        have hrr := okR_rt (okq_mem hq r hrl)
        refine vc_reg (by kernel_rfl) fun K hK => ?_
        refine run_n (z := false) 1 (fun K' hK' => hK' _ _ _ ?_) (by decide)
        clear hK' K'
        refine run_op (vex_ixs (j := i) rfl rfl rfl hlt rfl rfl) rfl ?_
        refine run_rd (vex_ldr rc_len (j := 0) (i := i) (d := rc r) rfl (Nat.zero_add _) rfl (rfl) rfl hM (by decide) rfl) rfl ?_
        refine run_end (z := false) fun K' hK' => hK' _ _ _ (hK _ _ _ ?_)
        clear hK' K' hK K
        refine vc_seq ?_
        rcases cl3 x r with hg | ⟨hg, hf⟩ | ⟨hg, hf⟩
        · skip
          refine vc_reg (by kernel_rfl) fun K hK => ?_
          refine run_n (z := false) 3 (fun K' hK' => hK' _ _ _ ?_) (by decide)
          clear hK' K'
          refine run_call (p67s (s := SLK) hrr hxr (by decide) hg) rfl rfl rfl rfl ?_
          refine run_end (z := false) fun K' hK' => hK' _ _ _ (hK _ _ _ ?_)
          clear hK' K' hK K
          refine vc_seq ?_
          refine vc_seq ?_
          refine vc_go (by kernel_rfl) fun K hK => hK _ _ _ ?_
          clear hK K
          refine vc_cond (t := false) rfl (fun h => by cases h) (fun _ => ?_)
          refine vc_skip ?_
          refine vc_seq ?_
          refine vc_go (by kernel_rfl) fun K hK => hK _ _ _ ?_
          clear hK K
          refine vc_cond (t := false) (bb (fr_neq r.n r.w)) (fun h => by cases h) (fun _ => ?_)
          refine vc_skip ?_
          refine vc_go (by kernel_rfl) fun K hK => hK _ _ _ ?_
          clear hK K
          have hQ1 : clI x (l.take (i + 1)) = [] := by rw [clI_take hr, hnil, hg]; rfl
          exact ⟨_, fg_focus [(0, .pointer (some ⟨0, 0, none⟩)), (1, .pointer (some ⟨2, 0, none⟩)), (4, .pointer (some ⟨3, 0, none⟩)), (20, .slice (some ⟨1, 0, none⟩) l.length c), (21, .int .i64 (l.length : Int)), (22, .int .i64 ((i + 1 : Nat) : Int))] [(0, .cells [.slice (some ⟨1, 0, none⟩) l.length c] 55 true), (1, .cells (rws rc (cur x l (i + 1)) ++ sp) 67 true), (2, .cells [.slice none 0 0] 61 true), (3, .cells (frc x.1 x.2) 58 true)] 4 (by decide) ⟨rfl, rfl, rfl, rfl, rfl, ii (wrapI (by omega) (by omega)), trivial⟩ ⟨sb rfl, sbe rfl (congrArg (fun q => rws rc q ++ sp) (cur_no hr hg)), sb rfl, sb rfl, trivial⟩ rfl (bdH_b (by decide) rfl (bdH_c (by decide) (plainL_append (rcs_plain _) hsp) (bdH_b (by decide) rfl (bdH_c (by decide) (by rfl) rfl)))), l.length - (i + 1), by omega, i + 1, rfl, hlt, nb_next hr hnb (by rw [clB, hg]; rfl), .inl ⟨hQ1, rfl⟩⟩
        · have hne : farN x.1 x.2 r.w ≠ r.n := Nat.ne_of_gt (far_up (rt_w hxr).1 hg)
          refine vc_reg (by kernel_rfl) fun K hK => ?_
          refine run_n (z := false) 3 (fun K' hK' => hK' _ _ _ ?_) (by decide)
          clear hK' K'
          refine run_call (p67y (s := SLK) hrr hxr (by decide) hg hf) rfl rfl rfl rfl ?_
          refine run_end (z := false) fun K' hK' => hK' _ _ _ (hK _ _ _ ?_)
          clear hK' K' hK K
          refine vc_seq ?_
          refine vc_seq ?_
          refine vc_go (by kernel_rfl) fun K hK => hK _ _ _ ?_
          clear hK K
          refine vc_cond (t := false) rfl (fun h => by cases h) (fun _ => ?_)
          refine vc_skip ?_
          refine vc_seq ?_
          refine vc_go (by kernel_rfl) fun K hK => hK _ _ _ ?_
          clear hK K
          refine vc_cond (t := true) (bb (frd hne)) (fun _ => ?_) (fun h => by cases h)
          refine vc_seq ?_
          skip
          · skip
            refine vc_reg (by kernel_rfl) fun K hK => ?_
            refine run_n (z := false) 4 (fun K' hK' => hK' _ _ _ ?_) (by decide)
            clear hK' K'
            refine run_sp (sp_append_new (z := [i0]) rfl rfl rfl el3 .nil (.cells (own := true) (t := 3) (l := [Value.int .i64 r.id]) rfl rfl get_zero) rfl (by decide) (by decide)) rfl rfl rfl ⟨_, _, _, Nat.le_refl _, rfl, rfl⟩ ?_
            rintro _ _ ⟨cap2, hcap2, rfl, rfl⟩
            refine run_end (z := false) fun K' hK' => hK' _ _ _ (hK _ _ _ ?_)
            clear hK' K' hK K
            refine vc_regD [] (by kernel_rfl) (by kernel_rfl) fun K hK => ?_
            refine runD_n (z := false) 6 (fun K' hK' => hK' _ _ _ _ ?_) (by decide)
            clear hK' K'
            refine runD_op (vex_ixs (j := i) rfl rfl rfl hlt rfl rfl) rfl ?_
            refine runD_n (z := false) 1 (fun K' hK' => hK' _ _ _ _ ?_) (by decide)
            clear hK' K'
            refine runD_set (vex_str (j := 2) (cs := frc (farN x.1 x.2 r.w) r.w) (r2 := { r with n := farN x.1 x.2 r.w }) rfl (congrArg (· + 2) (Nat.zero_add _)) rfl rfl rfl rfl rfl hM (Nat.le_of_ble_eq_true rfl) (Nat.le_of_ble_eq_true rfl) rfl) rfl (by decide) rfl rfl ?_
            refine runD_end (z := false) fun K' hK' => hK' _ _ _ _ (hK _ _ _ ?_)
            clear hK' K' hK K
            refine vc_go (by kernel_rfl) fun K hK => hK _ _ _ ?_
            clear hK K
            have hQ1 : clI x (l.take (i + 1)) = [r.id] := by rw [clI_take hr, hnil, if_pos hg]; rfl
            exact ⟨_, fg_ren (fun k => if k = 4 then 20 else k) [(0, .pointer (some ⟨0, 0, none⟩)), (1, .pointer (some ⟨2, 0, none⟩)), (4, .pointer (some ⟨3, 0, none⟩)), (20, .slice (some ⟨1, 0, none⟩) l.length c), (21, .int .i64 (l.length : Int)), (22, .int .i64 ((i + 1 : Nat) : Int))] [(0, .cells [.slice (some ⟨1, 0, none⟩) l.length c] 55 true), (1, .cells (rws rc (cur x l (i + 1)) ++ sp) 67 true), (2, .cells [.slice (some ⟨4, 0, none⟩) 1 cap2] 61 true), (3, .cells (frc x.1 x.2) 58 true), (4, .cells (rws ic [r.id] ++ (zrow (cap2 - 1) [i0])) 3 true)] 5 (by decide) (fun m hm => if_neg (by omega)) ⟨rfl, rfl, rfl, rfl, rfl, ii (wrapI (by omega) (by omega)), trivial⟩ ⟨sf_own rfl rfl, sf_eq (plainL_append (rcs_plain _) hsp) rfl (congrArg (fun q => rws rc q ++ sp) (cur_set hr hg)) rfl, sf_own rfl rfl, sf_ownp (by rfl) rfl rfl, sf_eq (plainL_append (ics_plain _) (zrow_plain rfl _)) rfl rfl rfl, trivial⟩ rfl (bdH_b (by decide) rfl (bdH_c (by decide) (plainL_append (rcs_plain _) hsp) (bdH_b (by decide) rfl (bdH_c (by decide) (by rfl) (bdH_c (by decide) (plainL_append (ics_plain _) (zrow_plain rfl _)) rfl))))) rfl, l.length - (i + 1), by omega, i + 1, rfl, hlt, nb_next hr hnb (by rw [clB, decide_eq_true hf]; simp), .inr ⟨[r.id], 1, cap2, (zrow (cap2 - 1) [i0]), hQ1, rfl, by omega, by omega, hcap2, zrow_plain rfl _, by rw [zrow_len]; simp, rfl⟩⟩
        · skip
          refine vc_reg (by kernel_rfl) fun K hK => ?_
          refine run_n (z := false) 3 (fun K' hK' => hK' _ _ _ ?_) (by decide)
          clear hK' K'
          refine run_call (p67r (s := SLK) hrr hxr (by decide) hg hf) rfl rfl rfl rfl ?_
          refine run_end (z := false) fun K' hK' => hK' _ _ _ (hK _ _ _ ?_)
          clear hK' K' hK K
          refine vc_seq ?_
          refine vc_seq ?_
          refine vc_go (by kernel_rfl) fun K hK => hK _ _ _ ?_
          clear hK K
          refine vc_cond (t := true) rfl (fun _ => ?_) (fun h => by cases h)
          refine vc_seq ?_
          refine vc_go (by kernel_rfl) fun K hK => hK _ _ _ ?_
          clear hK K
          refine vc_ret ⟨.inr rfl, ?_⟩
          exact res_of 200 _ (U0 (cur x l i) c sp) (.inl ⟨⟨r, hrl, by rw [clB, hg, decide_eq_false hf]; rfl⟩, rfl, cur x l i, cur_len x l i, .inl rfl⟩) (Nat.le_of_ble_eq_true rfl) rfl rfl ⟨sbu_eq0 rfl (by rw [cur_len]), sbu (plainL_append (rcs_plain _) hsp) rfl, sbu' rfl, trivial⟩ (bdH_b (by decide) rfl (bdH_c (by decide) (plainL_append (rcs_plain _) hsp) (bdH_b (by decide) rfl rfl))) rfl (.inr (Nat.le_of_ble_eq_true rfl))
      · -- cond 0 t23 false
        refine vc_exit ?_
        refine vc_seq ?_
        refine vc_go (by kernel_rfl) fun K hK => hK _ _ _ ?_
        clear hK K
        refine vc_ret ⟨.inr rfl, ?_⟩
        have hie : i = l.length := by have := len_ge c0; omega
        subst hie
        rw [cur_all]
        have hall : ∀ r ∈ l, clB x r = false := by rw [List.take_length] at hnb; exact hnb
        rw [List.take_length] at hnil
        exact res_of 200 _ (U0 (clQ x l) c sp) (.inr ⟨hall, rfl, .inl ⟨hnil, rfl⟩⟩) (Nat.le_of_ble_eq_true rfl) rfl rfl ⟨sbu_eq0 rfl (by rw [clQ_len]), sbu (plainL_append (rcs_plain _) hsp) rfl, sbu' rfl, trivial⟩ (bdH_b (by decide) rfl (bdH_c (by decide) (plainL_append (rcs_plain _) hsp) (bdH_b (by decide) rfl rfl))) rfl (.inr (Nat.le_of_ble_eq_true rfl))
    · skip
      refine vc_seq ?_
      refine vc_go (by kernel_rfl) fun K hK => hK _ _ _ ?_
      clear hK K
      refine vc_seq ?_
      refine vc_cond rfl (fun c0 => ?_) (fun c0 => ?_)
      · -- cond 0 t23 true
        refine vc_skip ?_
        refine vc_seq ?_
        refine vc_block ?_
        refine vc_seq ?_
        have hlt := len_le c0
        obtain ⟨r, hr⟩ : ∃ r, l[i]? = some r := ⟨l[i], List.getElem?_eq_getElem hlt⟩
        have hM := cur_get (x := x) hr
        have hrl := List.mem_of_getElem? hr
        obtain ⟨_, hxr⟩ := top_in hq hrl
        rw [← hx] at hxr
        have hrr := okR_rt (okq_mem hq r hrl)
        refine vc_reg (by kernel_rfl) fun K hK => ?_
        refine run_n (z := false) 1 (fun K' hK' => hK' _ _ _ ?_) (by decide)
        clear hK' K'
        refine run_op (vex_ixs (j := i) rfl rfl rfl hlt rfl rfl) rfl ?_
        refine run_rd (vex_ldr rc_len (j := 0) (i := i) (d := rc r) rfl (Nat.zero_add _) rfl (rfl) rfl hM (by decide) rfl) rfl ?_
        refine run_end (z := false) fun K' hK' => hK' _ _ _ (hK _ _ _ ?_)
        clear hK' K' hK K
        refine vc_seq ?_
        rcases cl3 x r with hg | ⟨hg, hf⟩ | ⟨hg, hf⟩
        · skip
          refine vc_reg (by kernel_rfl) fun K hK => ?_
          refine run_n (z := false) 3 (fun K' hK' => hK' _ _ _ ?_) (by decide)
          clear hK' K'
          refine run_call (p67s (s := SLK) hrr hxr (by decide) hg) rfl rfl rfl rfl ?_
          refine run_end (z := false) fun K' hK' => hK' _ _ _ (hK _ _ _ ?_)
          clear hK' K' hK K
          refine vc_seq ?_
          refine vc_seq ?_
          refine vc_go (by kernel_rfl) fun K hK => hK _ _ _ ?_
          clear hK K
          refine vc_cond (t := false) rfl (fun h => by cases h) (fun _ => ?_)
          refine vc_skip ?_
          refine vc_seq ?_
          refine vc_go (by kernel_rfl) fun K hK => hK _ _ _ ?_
          clear hK K
          refine vc_cond (t := false) (bb (fr_neq r.n r.w)) (fun h => by cases h) (fun _ => ?_)
          refine vc_skip ?_
          refine vc_go (by kernel_rfl) fun K hK => hK _ _ _ ?_
          clear hK K
          have hQ1 : clI x (l.take (i + 1)) = Q := by rw [clI_take hr, hQe, hg]; simp
          exact ⟨_, fg_focus [(0, .pointer (some ⟨0, 0, none⟩)), (1, .pointer (some ⟨2, 0, none⟩)), (4, .pointer (some ⟨3, 0, none⟩)), (20, .slice (some ⟨1, 0, none⟩) l.length c), (21, .int .i64 (l.length : Int)), (22, .int .i64 ((i + 1 : Nat) : Int))] [(0, .cells [.slice (some ⟨1, 0, none⟩) l.length c] 55 true), (1, .cells (rws rc (cur x l (i + 1)) ++ sp) 67 true), (2, .cells [.slice (some ⟨4, 0, none⟩) k cap] 61 true), (3, .cells (frc x.1 x.2) 58 true), (4, .cells (rws ic Q ++ sp2) 3 true)] 5 (by decide) ⟨rfl, rfl, rfl, rfl, rfl, ii (wrapI (by omega) (by omega)), trivial⟩ ⟨sb rfl, sbe rfl (congrArg (fun q => rws rc q ++ sp) (cur_no hr hg)), sb rfl, sb rfl, sb rfl, trivial⟩ rfl (bdH_b (by decide) rfl (bdH_c (by decide) (plainL_append (rcs_plain _) hsp) (bdH_b (by decide) rfl (bdH_c (by decide) (by rfl) (bdH_c (by decide) (plainL_append (ics_plain _) hp2) rfl))))), l.length - (i + 1), by omega, i + 1, rfl, hlt, nb_next hr hnb (by rw [clB, hg]; rfl), .inr ⟨Q, k, cap, sp2, hQ1, hQ, hk0, hk9, hkc, hp2, hsl, rfl⟩⟩
        · have hne : farN x.1 x.2 r.w ≠ r.n := Nat.ne_of_gt (far_up (rt_w hxr).1 hg)
          refine vc_reg (by kernel_rfl) fun K hK => ?_
          refine run_n (z := false) 3 (fun K' hK' => hK' _ _ _ ?_) (by decide)
          clear hK' K'
          refine run_call (p67y (s := SLK) hrr hxr (by decide) hg hf) rfl rfl rfl rfl ?_
          refine run_end (z := false) fun K' hK' => hK' _ _ _ (hK _ _ _ ?_)
          clear hK' K' hK K
          refine vc_seq ?_
          refine vc_seq ?_
          refine vc_go (by kernel_rfl) fun K hK => hK _ _ _ ?_
          clear hK K
          refine vc_cond (t := false) rfl (fun h => by cases h) (fun _ => ?_)
          refine vc_skip ?_
          refine vc_seq ?_
          refine vc_go (by kernel_rfl) fun K hK => hK _ _ _ ?_
          clear hK K
          refine vc_cond (t := true) (bb (frd hne)) (fun _ => ?_) (fun h => by cases h)
          refine vc_seq ?_
          rcases Nat.lt_or_ge cap (k + 1) with hroom | hroom
          rotate_left
          · skip
            refine vc_reg (by kernel_rfl) fun K hK => ?_
            refine run_n (z := false) 4 (fun K' hK' => hK' _ _ _ ?_) (by decide)
            clear hK' K'
            refine run_sp (sp_append_room (z := [i0]) rfl rfl rfl el3 rfl rfl (.cells (own := true) (t := 3) (l := [Value.int .i64 r.id]) rfl rfl get_zero) rfl hroom (by rw [List.length_append, rws_len ic_len, hQ, hsl]; show 0 + k * 1 + 1 ≤ _; omega)) rfl rfl rfl ⟨_, _, rfl, rfl⟩ ?_
            rintro _ _ ⟨rfl, rfl⟩
            refine run_end (z := false) fun K' hK' => hK' _ _ _ (hK _ _ _ ?_)
            clear hK' K' hK K
            refine vc_regD [] (by kernel_rfl) (by kernel_rfl) fun K hK => ?_
            refine runD_n (z := false) 6 (fun K' hK' => hK' _ _ _ _ ?_) (by decide)
            clear hK' K'
            refine runD_op (vex_ixs (j := i) rfl rfl rfl hlt rfl rfl) rfl ?_
            refine runD_n (z := false) 1 (fun K' hK' => hK' _ _ _ _ ?_) (by decide)
            clear hK' K'
            refine runD_set (vex_str (j := 2) (cs := frc (farN x.1 x.2 r.w) r.w) (r2 := { r with n := farN x.1 x.2 r.w }) rfl (congrArg (· + 2) (Nat.zero_add _)) rfl rfl rfl rfl rfl hM (Nat.le_of_ble_eq_true rfl) (Nat.le_of_ble_eq_true rfl) rfl) rfl (by decide) rfl rfl ?_
            refine runD_end (z := false) fun K' hK' => hK' _ _ _ _ (hK _ _ _ ?_)
            clear hK' K' hK K
            refine vc_go (by kernel_rfl) fun K hK => hK _ _ _ ?_
            clear hK K
            have hQ1 : clI x (l.take (i + 1)) = Q ++ [r.id] := by rw [clI_take hr, hQe, if_pos hg]
            have hk8 : k + 1 ≤ 900 := by
              have := clI_len (x := x) (l := l.take (i + 1))
              rw [hQ1, List.length_append, hQ, List.length_take] at this
              simp at this
              omega
            exact ⟨_, fg_focus [(0, .pointer (some ⟨0, 0, none⟩)), (1, .pointer (some ⟨2, 0, none⟩)), (4, .pointer (some ⟨3, 0, none⟩)), (20, .slice (some ⟨1, 0, none⟩) l.length c), (21, .int .i64 (l.length : Int)), (22, .int .i64 ((i + 1 : Nat) : Int))] [(0, .cells [.slice (some ⟨1, 0, none⟩) l.length c] 55 true), (1, .cells (rws rc (cur x l (i + 1)) ++ sp) 67 true), (2, .cells [.slice (some ⟨4, 0, none⟩) (k + 1) cap] 61 true), (3, .cells (frc x.1 x.2) 58 true), (4, .cells (rws ic (Q ++ [r.id]) ++ (sp2.drop 1)) 3 true)] 5 (by decide) ⟨rfl, rfl, rfl, rfl, rfl, ii (wrapI (by omega) (by omega)), trivial⟩ ⟨sb rfl, sbe rfl (congrArg (fun q => rws rc q ++ sp) (cur_set hr hg)), sb rfl, sb rfl, sbe rfl (ics_room hQ), trivial⟩ rfl (bdH_b (by decide) rfl (bdH_c (by decide) (plainL_append (rcs_plain _) hsp) (bdH_b (by decide) rfl (bdH_c (by decide) (by rfl) (bdH_c (by decide) (plainL_append (ics_plain _) (plainL_drop hp2 1)) rfl))))), l.length - (i + 1), by omega, i + 1, rfl, hlt, nb_next hr hnb (by rw [clB, decide_eq_true hf]; simp), .inr ⟨Q ++ [r.id], k + 1, cap, sp2.drop 1, hQ1, by simp [hQ], by omega, hk8, hroom, plainL_drop hp2 1, by rw [List.length_drop, hsl]; omega, rfl⟩⟩
          · skip
            refine vc_reg (by kernel_rfl) fun K hK => ?_
            refine run_n (z := false) 4 (fun K' hK' => hK' _ _ _ ?_) (by decide)
            clear hK' K'
            refine run_sp (sp_append_grow (z := [i0]) rfl rfl rfl el3 (.cells (own := true) (t := 3) (l := rws ic Q) rfl (by rw [rws_len ic_len, hQ]; rfl) get_zero_app) (.cells (own := true) (t := 3) (l := [Value.int .i64 r.id]) rfl rfl get_zero) rfl hroom (by omega)) rfl rfl rfl ⟨_, _, _, Nat.le_refl _, rfl, rfl⟩ ?_
            rintro _ _ ⟨cap2, hcap2, rfl, rfl⟩
            refine run_end (z := false) fun K' hK' => hK' _ _ _ (hK _ _ _ ?_)
            clear hK' K' hK K
            refine vc_regD [] (by kernel_rfl) (by kernel_rfl) fun K hK => ?_
            refine runD_n (z := false) 6 (fun K' hK' => hK' _ _ _ _ ?_) (by decide)
            clear hK' K'
            refine runD_op (vex_ixs (j := i) rfl rfl rfl hlt rfl rfl) rfl ?_
            refine runD_n (z := false) 1 (fun K' hK' => hK' _ _ _ _ ?_) (by decide)
            clear hK' K'
            refine runD_set (vex_str (j := 2) (cs := frc (farN x.1 x.2 r.w) r.w) (r2 := { r with n := farN x.1 x.2 r.w }) rfl (congrArg (· + 2) (Nat.zero_add _)) rfl rfl rfl rfl rfl hM (Nat.le_of_ble_eq_true rfl) (Nat.le_of_ble_eq_true rfl) rfl) rfl (by decide) rfl rfl ?_
            refine runD_end (z := false) fun K' hK' => hK' _ _ _ _ (hK _ _ _ ?_)
            clear hK' K' hK K
            refine vc_go (by kernel_rfl) fun K hK => hK _ _ _ ?_
            clear hK K
            have hQ1 : clI x (l.take (i + 1)) = Q ++ [r.id] := by rw [clI_take hr, hQe, if_pos hg]
            have hk8 : k + 1 ≤ 900 := by
              have := clI_len (x := x) (l := l.take (i + 1))
              rw [hQ1, List.length_append, hQ, List.length_take] at this
              simp at this
              omega
            exact ⟨_, fg_ren (fun k => if k = 4 then 21 else k) [(0, .pointer (some ⟨0, 0, none⟩)), (1, .pointer (some ⟨2, 0, none⟩)), (4, .pointer (some ⟨3, 0, none⟩)), (20, .slice (some ⟨1, 0, none⟩) l.length c), (21, .int .i64 (l.length : Int)), (22, .int .i64 ((i + 1 : Nat) : Int))] [(0, .cells [.slice (some ⟨1, 0, none⟩) l.length c] 55 true), (1, .cells (rws rc (cur x l (i + 1)) ++ sp) 67 true), (2, .cells [.slice (some ⟨4, 0, none⟩) (k + 1) cap2] 61 true), (3, .cells (frc x.1 x.2) 58 true), (4, .cells (rws ic (Q ++ [r.id]) ++ (zrow (cap2 - (k + 1)) [i0])) 3 true)] 5 (by decide) (fun m hm => if_neg (by omega)) ⟨rfl, rfl, rfl, rfl, rfl, ii (wrapI (by omega) (by omega)), trivial⟩ ⟨sf_own rfl rfl, sf_eq (plainL_append (rcs_plain _) hsp) rfl (congrArg (fun q => rws rc q ++ sp) (cur_set hr hg)) rfl, sf_own rfl rfl, sf_ownp (by rfl) rfl rfl, sf_eq (plainL_append (ics_plain _) (zrow_plain rfl _)) rfl ics_grow rfl, trivial⟩ rfl (bdH_b (by decide) rfl (bdH_c (by decide) (plainL_append (rcs_plain _) hsp) (bdH_b (by decide) rfl (bdH_c (by decide) (by rfl) (bdH_c (by decide) (plainL_append (ics_plain _) (zrow_plain rfl _)) rfl))))) rfl, l.length - (i + 1), by omega, i + 1, rfl, hlt, nb_next hr hnb (by rw [clB, decide_eq_true hf]; simp), .inr ⟨Q ++ [r.id], (k + 1), cap2, (zrow (cap2 - (k + 1)) [i0]), hQ1, by simp [hQ], by omega, hk8, hcap2, zrow_plain rfl _, by rw [zrow_len]; simp, rfl⟩⟩
        · skip
          refine vc_reg (by kernel_rfl) fun K hK => ?_
          refine run_n (z := false) 3 (fun K' hK' => hK' _ _ _ ?_) (by decide)
          clear hK' K'
          refine run_call (p67r (s := SLK) hrr hxr (by decide) hg hf) rfl rfl rfl rfl ?_
          refine run_end (z := false) fun K' hK' => hK' _ _ _ (hK _ _ _ ?_)
          clear hK' K' hK K
          refine vc_seq ?_
          refine vc_seq ?_
          refine vc_go (by kernel_rfl) fun K hK => hK _ _ _ ?_
          clear hK K
          refine vc_cond (t := true) rfl (fun _ => ?_) (fun h => by cases h)
          refine vc_seq ?_
          refine vc_go (by kernel_rfl) fun K hK => hK _ _ _ ?_
          clear hK K
          refine vc_ret ⟨.inr rfl, ?_⟩
          subst hQ
          exact res_of 4 _ (U1 (cur x l i) c sp Q cap sp2) (.inl ⟨⟨r, hrl, by rw [clB, hg, decide_eq_false hf]; rfl⟩, rfl, cur x l i, cur_len x l i, .inr ⟨Q, cap, sp2, hp2, rfl⟩⟩) (Nat.le_of_ble_eq_true rfl) rfl rfl ⟨sbu_eq0 rfl (by rw [cur_len]), sbu (plainL_append (rcs_plain _) hsp) rfl, sbu' rfl, sbu (plainL_append (ics_plain _) hp2) rfl, trivial⟩ (bdH_b (by decide) rfl (bdH_c (by decide) (plainL_append (rcs_plain _) hsp) (bdH_b (by decide) rfl (bdH_c (by decide) (plainL_append (ics_plain _) hp2) rfl)))) rfl (.inl (by simp [U1]))
      · -- cond 0 t23 false
        refine vc_exit ?_
        refine vc_seq ?_
        refine vc_go (by kernel_rfl) fun K hK => hK _ _ _ ?_
        clear hK K
        refine vc_ret ⟨.inr rfl, ?_⟩
        have hie : i = l.length := by have := len_ge c0; omega
        subst hie
        rw [cur_all]
        have hall : ∀ r ∈ l, clB x r = false := by rw [List.take_length] at hnb; exact hnb
        rw [List.take_length] at hQe
        subst hQe
        subst hQ
        exact res_of 4 _ (U1 (clQ x l) c sp (clI x l) cap sp2) (.inr ⟨hall, rfl, .inr ⟨fun e => (by rw [e] at hk0; cases hk0), cap, sp2, hp2, rfl⟩⟩) (Nat.le_of_ble_eq_true rfl) rfl rfl ⟨sbu_eq0 rfl (by rw [clQ_len]), sbu (plainL_append (rcs_plain _) hsp) rfl, sbu' rfl, sbu (plainL_append (ics_plain _) hp2) rfl, trivial⟩ (bdH_b (by decide) rfl (bdH_c (by decide) (plainL_append (rcs_plain _) hsp) (bdH_b (by decide) rfl (bdH_c (by decide) (plainL_append (ics_plain _) hp2) rfl)))) rfl (.inl (by simp [U1]))

end Go.Proofs.Ytdfkcijholopoaa.Vm
