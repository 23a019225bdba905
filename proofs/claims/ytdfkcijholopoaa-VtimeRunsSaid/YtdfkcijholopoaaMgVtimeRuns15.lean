/- What the proofs stand on, in one text: Nh, Ni, Nj00. -/
import Derived.Test.YtdfkcijholopoaaMgVtimeRuns14
namespace Go.Proofs.Ytdfkcijholopoaa.Vm
open Go Go.RowKit
set_option maxRecDepth 10000
set_option linter.unusedSimpArgs false
set_option linter.unusedVariables false

theorem altL_set {f : Rn → Int × Rn} {i : Nat} {v : Rn} : ∀ {is : List Nat} {l : List Rn} {e : Int}, i ∉ is → altL f is (l.set i v) e = ((altL f is l e).1, (altL f is l e).2.set i v)
  | [], l, e, _ => rfl
  | k :: is, l, e, h => by
    have hk : i ≠ k := fun x => h (by simp [x])
    have hi : i ∉ is := fun x => h (by simp [x])
    rw [altL, altL]
    by_cases he : e ≠ 0
    · rw [if_pos he, if_pos he]
    · rw [if_neg he, if_neg he]
      have hg : (l.set i v).getD k default = l.getD k default := by
        rw [List.getD_eq_getElem?_getD, List.getD_eq_getElem?_getD, List.getElem?_set_ne hk]
      rw [hg, List.set_comm _ _ hk]
      exact altL_set hi
theorem altL_fst {f : Rn → Int × Rn} {i : Nat} {is : List Nat} {l : List Rn} {r : Rn} (hr : l[i]? = some r) (h : (altL f (i :: is) l 0).1 = 0) : (f r).1 = 0 ∧ altL f (i :: is) l 0 = altL f is (l.set i (f r).2) 0 := by
  rw [altL_step hr] at h ⊢
  by_cases he : (f r).1 = 0
  · rw [he]; exact ⟨rfl, rfl⟩
  · rw [altL_stop he] at h
    exact absurd h he
/-- What is at a place behind it. -/
theorem altL_at {f : Rn → Int × Rn} : ∀ {is : List Nat} {l : List Rn}, is.Nodup → (∀ i ∈ is, i < l.length) → (altL f is l 0).1 = 0 → ∀ (j : Nat) (r : Rn), l[j]? = some r → (altL f is l 0).2[j]? = some (if j ∈ is then (f r).2 else r) ∧ (j ∈ is → (f r).1 = 0)
  | [], l, _, _, _, j, r, hr => by simp [altL, hr]
  | i :: is, l, hnd, hlt, h, j, r, hr => by
    obtain ⟨r0, hr0⟩ : ∃ r0, l[i]? = some r0 := ⟨l[i]'(hlt i (by simp)), List.getElem?_eq_getElem (hlt i (by simp))⟩
    obtain ⟨h1, h2⟩ := altL_fst hr0 h
    rw [List.nodup_cons] at hnd
    rw [h2, altL_set hnd.1] at h
    rw [h2, altL_set hnd.1]
    have ih := altL_at hnd.2 (fun k hk => hlt k (by simp [hk])) h j r hr
    simp only
    by_cases e : i = j
    · subst e
      rw [hr0] at hr
      cases hr
      rw [List.getElem?_set_self (by rw [altL_len]; exact hlt i (by simp)), if_pos (by simp)]
      exact ⟨rfl, fun _ => h1⟩
    · rw [List.getElem?_set_ne e, ih.1]
      have hm : (j ∈ i :: is) ↔ j ∈ is := by simp [Ne.symm e]
      by_cases hj : j ∈ is
      · rw [if_pos hj, if_pos (hm.2 hj)]; exact ⟨rfl, fun _ => ih.2 hj⟩
      · rw [if_neg hj, if_neg fun x => hj (hm.1 x)]; exact ⟨rfl, fun x => absurd (hm.1 x) hj⟩
theorem kR_is {d : Nat} {r : Rn} (hd : d ≤ 20000000) (hr : 1 ≤ r.each ∧ r.each ≤ 8) : kR d r = r.each.toNat * d := by
  unfold kR
  rw [Int.emod_eq_of_lt (by omega) (by omega), Nat.mod_eq_of_lt]
  have : r.each.toNat ≤ 8 := by omega
  have := Nat.mul_le_mul this hd
  omega
theorem run_step {a b : Nat} {r : Rn} (hab : a + b ≤ 10000000) (hr : 1 ≤ r.each ∧ r.each ≤ 8) (h : (fRun a r).1 = 0) : rt r.n r.w = true ∧ r.n + kR a r < 2 ^ 100 ∧ (fRun a r).2 = { r with n := r.n + kR a r } ∧ (fRun b (fRun a r).2).1 = (fRun (a + b) r).1 ∧ ((fRun (a + b) r).1 = 0 → (fRun b (fRun a r).2).2 = (fRun (a + b) r).2) := by
  have hrt : rt r.n r.w = true := by
    cases hx : rt r.n r.w
    · rw [fRun, if_pos hx] at h; cases h
    · rfl
  have hf : ¬ rt r.n r.w = false := by rw [hrt]; simp
  have hlt : r.n + kR a r < 2 ^ 100 := by
    rw [fRun, if_neg hf] at h
    by_cases hx : r.n + kR a r < 2 ^ 100
    · exact hx
    · rw [if_neg hx] at h; cases h
  have h2 : (fRun a r).2 = { r with n := r.n + kR a r } := by rw [fRun, if_neg hf, if_pos hlt]
  refine ⟨hrt, hlt, h2, ?_⟩
  rw [h2]
  have hrt2 : ¬ rt (r.n + kR a r) r.w = false := by rw [rt_mk (rt_wt hrt) hlt]; simp
  have hk : kR (a + b) r = kR a r + kR b r := by
    rw [kR_is (by omega) hr, kR_is (by omega) hr, kR_is (by omega) hr, Nat.mul_add]
  have hkb : kR b { r with n := r.n + kR a r } = kR b r := rfl
  have e1 : fRun b { r with n := r.n + kR a r } = if r.n + kR a r + kR b r < 2 ^ 100 then (0, { r with n := r.n + kR a r + kR b r }) else (131, { r with n := 0, w := 0 }) := by
    rw [fRun, if_neg hrt2]
    rfl
  have e2 : fRun (a + b) r = if r.n + kR a r + kR b r < 2 ^ 100 then (0, { r with n := r.n + kR a r + kR b r }) else (131, { r with n := 0, w := 0 }) := by
    rw [fRun, if_neg hf, hk, ← Nat.add_assoc]
  rw [e1, e2]
  exact ⟨rfl, fun _ => rfl⟩
theorem altL_twice {a b : Nat} (hab : a + b ≤ 10000000) : ∀ {is : List Nat} {l : List Rn}, is.Nodup → (∀ i ∈ is, i < l.length) → (∀ (k : Nat) (r : Rn), l[k]? = some r → 1 ≤ r.each ∧ r.each ≤ 8) → (altL (fRun a) is l 0).1 = 0 →
    (altL (fRun b) is (altL (fRun a) is l 0).2 0).1 = (altL (fRun (a + b)) is l 0).1 ∧ ((altL (fRun (a + b)) is l 0).1 = 0 → (altL (fRun b) is (altL (fRun a) is l 0).2 0).2 = (altL (fRun (a + b)) is l 0).2)
  | [], l, _, _, _, _ => ⟨rfl, fun _ => rfl⟩
  | i :: is, l, hnd, hlt, hea, h => by
    have hil := hlt i (by simp)
    obtain ⟨r, hr⟩ : ∃ r, l[i]? = some r := ⟨l[i]'hil, List.getElem?_eq_getElem hil⟩
    obtain ⟨h1, h2⟩ := altL_fst hr h
    rw [List.nodup_cons] at hnd
    obtain ⟨_, _, s3, s4, s5⟩ := run_step hab (hea i r hr) h1
    rw [h2] at h ⊢
    have hset := altL_set (f := fRun a) (v := (fRun a r).2) (e := 0) (l := l) hnd.1
    rw [hset] at h
    have hl1 : (altL (fRun a) is (l.set i (fRun a r).2) 0).2[i]? = some (fRun a r).2 := by
      rw [hset]
      exact List.getElem?_set_self (by rw [altL_len]; exact hil)
    rw [altL_step hl1, altL_step hr, s4]
    by_cases h0 : (fRun (a + b) r).1 = 0
    · rw [h0, s5 h0]
      have e1 : (altL (fRun a) is (l.set i (fRun a r).2) 0).2.set i (fRun (a + b) r).2 = (altL (fRun a) is (l.set i (fRun (a + b) r).2) 0).2 := by
        rw [hset, altL_set hnd.1]
        exact List.set_set ..
      rw [e1]
      refine altL_twice hab hnd.2 (fun k hk => by rw [List.length_set]; exact hlt k (by simp [hk])) (fun k r' hk => ?_) (by rw [altL_set hnd.1]; exact h)
      rw [List.getElem?_set] at hk
      split at hk
      · cases hk
        have : (fRun (a + b) r).2.each = r.each := by
          unfold fRun
          split
          · rfl
          · split <;> rfl
        rw [this]
        exact hea i r hr
      · exact hea k r' hk
    · rw [altL_stop h0, altL_stop h0]
      exact ⟨rfl, fun x => absurd x h0⟩
theorem idsOk_pw : ∀ {last : Int} {ids : List Int}, idsOk last ids = true → (∀ t ∈ ids, inI t 16 = true ∧ last < t) ∧ ids.Pairwise (· < ·)
  | _, [], _ => ⟨fun t h => (by cases h), .nil⟩
  | last, x :: ids, h => by
    simp only [idsOk, Bool.and_eq_true, decide_eq_true_eq] at h
    obtain ⟨h1, h2, h3⟩ := h
    obtain ⟨i1, i2⟩ := idsOk_pw h3
    refine ⟨fun t ht => ?_, List.pairwise_cons.2 ⟨fun t ht => (i1 t ht).2, i2⟩⟩
    rcases List.mem_cons.1 ht with rfl | ht
    · exact ⟨h1, h2⟩
    · exact ⟨(i1 t ht).1, by have := (i1 t ht).2; omega⟩
theorem i64r_of {t : Int} (h : inI t 16 = true) : i64r t := by
  simp [inI] at h
  constructor <;> omega
/-- What alters says, if it says yes. -/
theorem alR_ok {f : Rn → Int × Rn} {l : List Rn} {ids : List Int} (hq : okq 0 l = true) (h : (alR true f l ids).1 = 0) : idsOk 0 ids = true ∧ plE l ids = 0 ∧ (∀ t ∈ ids, inI t 16 = true ∧ atB l t = true) ∧ (pls l ids).Nodup ∧ (∀ i ∈ pls l ids, i < l.length) ∧ alR true f l ids = altL f (pls l ids) l 0 ∧ (∀ (j : Nat) (r : Rn), l[j]? = some r → (j ∈ pls l ids ↔ r.id ∈ ids)) := by
  unfold alR at h ⊢
  rw [if_neg (by simp)] at h ⊢
  cases hi : idsOk 0 ids with
  | false => rw [hi, if_pos rfl] at h; cases h
  | true =>
    rw [hi, if_neg (by simp)] at h
    rw [if_neg (by simp)]
    by_cases hp : plE l ids = 0
    · rw [if_neg (by rw [hp]; simp)] at h ⊢
      have hall : ∀ t ∈ ids, atB l t = true := by
        intro t ht
        unfold plE at hp
        by_cases hx : (ids.all fun t => atB l t) = true
        · exact List.all_eq_true.1 hx t ht
        · rw [if_neg hx] at hp; cases hp
      obtain ⟨p1, p2⟩ := idsOk_pw hi
      have hat : ∀ t ∈ ids, ∃ a, l[atI l t]? = some a ∧ a.id = t ∧ atI l t < l.length := fun t ht => atB_id hq (i64r_of (p1 t ht).1) (hall t ht)
      refine ⟨rfl, hp, fun t ht => ⟨(p1 t ht).1, hall t ht⟩, ?_, ?_, rfl, ?_⟩
      · unfold pls List.Nodup
        rw [List.pairwise_map]
        refine List.Pairwise.imp_of_mem ?_ p2
        intro t t' ht ht' hlt e
        obtain ⟨a, ha, h1, _⟩ := hat t ht
        obtain ⟨a', ha', h1', _⟩ := hat t' ht'
        rw [e, ha'] at ha
        cases ha
        omega
      · intro i hx
        obtain ⟨t, ht, rfl⟩ := List.mem_map.1 hx
        exact (hat t ht).choose_spec.2.2
      · intro j r hr
        constructor
        · intro hx
          obtain ⟨t, ht, rfl⟩ := List.mem_map.1 hx
          obtain ⟨a, ha, h1, _⟩ := hat t ht
          rw [hr] at ha
          cases ha
          rw [h1]; exact ht
        · intro hx
          exact List.mem_map.2 ⟨r.id, hx, (at_of hq hr).1⟩
    · rw [if_pos hp] at h
      cases h
/-- The queue behind a run. -/
theorem run_one {a : Nat} {l : List Rn} {ids : List Int} (hq : okq 0 l = true) (ha : a ≤ 10000000) (h : (alR true (fRun a) l ids).1 = 0) :
    okq 0 (alR true (fRun a) l ids).2 = true ∧ ∀ (j : Nat) (r : Rn), (alR true (fRun a) l ids).2[j]? = some r → ∃ was, getQ l r.id = some was ∧ l[j]? = some was ∧ was.id = r.id ∧ okR was = true ∧ (if r.id ∈ ids then was.n + kR a was < 2 ^ 100 ∧ r = { was with n := was.n + kR a was } else r = was) := by
  obtain ⟨a1, a2, a3, a4, a5, a6, a7⟩ := alR_ok hq h
  have hR := (okq0.1 hq).1
  have hlen : (alR true (fRun a) l ids).2.length = l.length := alR_len _ _ _ _
  have hat : ∀ (j : Nat) (was : Rn), l[j]? = some was → ∃ r, (alR true (fRun a) l ids).2[j]? = some r ∧ r.id = was.id ∧ okR r = true ∧ (if was.id ∈ ids then was.n + kR a was < 2 ^ 100 ∧ r = { was with n := was.n + kR a was } else r = was) := by
    intro j was hw
    have hok := hR was (List.mem_of_getElem? hw)
    rw [a6] at h ⊢
    obtain ⟨e1, e2⟩ := altL_at a4 a5 h j was hw
    refine ⟨_, e1, ?_⟩
    by_cases hj : j ∈ pls l ids
    · obtain ⟨s1, s2, s3, _⟩ := run_step (b := 0) (by omega) (okR_each hok) (e2 hj)
      rw [if_pos hj, s3, if_pos ((a7 j was hw).1 hj)]
      exact ⟨rfl, okR_n hok s2, s2, rfl⟩
    · rw [if_neg hj, if_neg fun x => hj ((a7 j was hw).2 x)]
      exact ⟨rfl, hok, rfl⟩
  have hback : ∀ (j : Nat) (r : Rn), (alR true (fRun a) l ids).2[j]? = some r → ∃ was, l[j]? = some was ∧ r.id = was.id ∧ okR r = true ∧ (if was.id ∈ ids then was.n + kR a was < 2 ^ 100 ∧ r = { was with n := was.n + kR a was } else r = was) := by
    intro j r hr
    have hj : j < l.length := by rw [← hlen]; exact (List.getElem?_eq_some_iff.1 hr).1
    obtain ⟨r', h1, h2⟩ := hat j l[j] (List.getElem?_eq_getElem hj)
    rw [hr] at h1
    cases h1
    exact ⟨_, List.getElem?_eq_getElem hj, h2⟩
  constructor
  · refine okq0.2 ⟨fun r hr => ?_, ?_⟩
    · obtain ⟨j, hj⟩ := List.getElem?_of_mem hr
      obtain ⟨_, _, _, h3, _⟩ := hback j r hj
      exact h3
    · have hmap : (alR true (fRun a) l ids).2.map (·.id) = l.map (·.id) := by
        apply List.ext_getElem?
        intro k
        rw [List.getElem?_map, List.getElem?_map]
        cases hk : (alR true (fRun a) l ids).2[k]? with
        | none =>
          have : l[k]? = none := by
            rw [List.getElem?_eq_none_iff] at hk ⊢
            omega
          rw [this]
        | some r =>
          obtain ⟨was, h1, h2, _⟩ := hback k r hk
          rw [h1]
          simp [h2]
      have := (List.pairwise_map (f := (·.id)) (R := ((· < ·) : Int → Int → Prop)) (l := l)).2 (okq0.1 hq).2
      rw [← hmap] at this
      exact List.pairwise_map.1 this
  · intro j r hr
    obtain ⟨was, h1, h2, h3, h4⟩ := hback j r hr
    refine ⟨was, by rw [h2]; exact (at_of hq h1).2.2, h1, h2.symm, hR was (List.mem_of_getElem? h1), ?_⟩
    rw [h2]
    exact h4
/-- To run twice is to run so long at once. -/
theorem run_twice {a b : Nat} {l : List Rn} {ids : List Int} (hq : okq 0 l = true) (hab : a + b ≤ 10000000) (h : (alR true (fRun a) l ids).1 = 0) :
    (alR true (fRun b) (alR true (fRun a) l ids).2 ids).1 = (alR true (fRun (a + b)) l ids).1 ∧ ((alR true (fRun (a + b)) l ids).1 = 0 → (alR true (fRun b) (alR true (fRun a) l ids).2 ids).2 = (alR true (fRun (a + b)) l ids).2) := by
  obtain ⟨a1, a2, a3, a4, a5, a6, a7⟩ := alR_ok hq h
  obtain ⟨o1, o2⟩ := run_one hq (by omega) h
  have hpl : ∀ t ∈ ids, atI (alR true (fRun a) l ids).2 t = atI l t ∧ atB (alR true (fRun a) l ids).2 t = true := by
    intro t ht
    obtain ⟨was, hw, hid, hi⟩ := atB_id hq (i64r_of (a3 t ht).1) (a3 t ht).2
    have hi' : atI l t < (alR true (fRun a) l ids).2.length := by rw [alR_len]; exact hi
    obtain ⟨was', _, h2, h3, _⟩ := o2 _ _ (List.getElem?_eq_getElem hi')
    rw [hw] at h2
    cases h2
    obtain ⟨e1, e2, _⟩ := at_of o1 (List.getElem?_eq_getElem hi')
    rw [← h3, hid] at e1 e2
    exact ⟨e1, e2⟩
  have hp1 : pls (alR true (fRun a) l ids).2 ids = pls l ids := List.map_congr_left fun t ht => (hpl t ht).1
  have hp2 : plE (alR true (fRun a) l ids).2 ids = 0 := by
    unfold plE
    rw [if_pos (List.all_eq_true.2 fun t ht => (hpl t ht).2)]
  have e1 : alR true (fRun b) (alR true (fRun a) l ids).2 ids = altL (fRun b) (pls l ids) (alR true (fRun a) l ids).2 0 := by
    conv => lhs; unfold alR
    rw [if_neg (by simp), if_neg (by rw [a1]; simp)]
    change (if plE (alR true (fRun a) l ids).2 ids ≠ 0 then _ else altL (fRun b) (pls (alR true (fRun a) l ids).2 ids) _ 0) = _
    rw [if_neg (by rw [hp2]; simp), hp1]
    rfl
  have e2 : alR true (fRun (a + b)) l ids = altL (fRun (a + b)) (pls l ids) l 0 := by
    unfold alR
    rw [if_neg (by simp), if_neg (by rw [a1]; simp), if_neg (by rw [a2]; simp)]
  rw [e1, e2, a6]
  rw [a6] at h
  exact altL_twice hab a4 a5 (fun k r hr => okR_each ((okq0.1 hq).1 r (List.mem_of_getElem? hr))) h
end Go.Proofs.Ytdfkcijholopoaa.Vm
namespace Go.Proofs.Ytdfkcijholopoaa.Vm
open Go Go.RowKit
set_option maxRecDepth 10000
set_option linter.unusedSimpArgs false
set_option linter.unusedVariables false

theorem vc_mid {B N : Nat} {c : Code} {Q : Exit → St → Prop} {s : St} (I : St → Prop) (h1 : VC (B := B) N c (fun e s' => e = .normal ∧ ∃ s2, Fg B s' s2 ∧ I s2) s) (h2 : ∀ s2, I s2 → Q .normal s2) : VC (B := B) N c Q s := by
  refine vc_post (h1.mono ?_)
  rintro e s' ⟨rfl, s2, h3, h4⟩
  exact ⟨s2, h3, h2 s2 h4⟩
theorem red (a : Int) : ∃ A : Nat, A < 10000000 ∧ (IntKind.i64.wrap (a.tmod 10000000 + 10000000)).tmod 10000000 = (A : Int) := by
  have h1 := Int.tmod_lt_of_pos a (show (0 : Int) < 10000000 by decide)
  have h2 : -10000000 < a.tmod 10000000 := by
    have := Int.tmod_lt_of_pos (-a) (show (0 : Int) < 10000000 by decide)
    rw [Int.neg_tmod] at this
    omega
  rw [wrapI (by omega) (by omega)]
  have h3 : 0 ≤ a.tmod 10000000 + 10000000 := by omega
  refine ⟨((a.tmod 10000000 + 10000000).tmod 10000000).toNat, ?_, ?_⟩
  · have := Int.tmod_lt_of_pos (a.tmod 10000000 + 10000000) (show (0 : Int) < 10000000 by decide)
    omega
  · have := Int.tmod_nonneg 10000000 h3
    omega
/-- The value of the list of numbers: none, or at block 1. -/
def idV (nil : Bool) (L : List Int) (m mc : Nat) : Value := match nil with
  | true => .slice none 0 0
  | false => .slice (some ⟨m, 0, none⟩) L.length mc
def OutRE (e : Int) : Value → List (Nat × Blk) → Prop := fun v u => v = .tuple #[qnil, .int .i64 e] ∧ u = []
def OutRK (l2 : List Rn) : Value → List (Nat × Blk) → Prop := fun v u => ∃ c2 sp2, plainL sp2 = true ∧ v = .tuple #[qv 2 l2.length c2, .int .i64 0] ∧ u = [(2, .cells (rws rc l2 ++ sp2) 67 true)]
theorem p70u {nil : Bool} {l : List Rn} {L : List Int} {c mc d : Nat} (hd : d ≤ 10000000) (hl : l.length ≤ 17) (hL : L.length ≤ 17) (hn : nil = true → L = []) :
    ((okq 0 l = false ∨ (alR true (fRun d) l L).1 ≠ 0) ∧ FC 70 [qv 0 l.length c, idV nil L 1 mc, .int .i64 (d : Nat)] 2 [(0, .cells (rws rc l) 0 false), (1, .cells (rws ic L) 3 false)] (OutRE (if okq 0 l = true then (alR true (fRun d) l L).1 else 200))) ∨ (okq 0 l = true ∧ (alR true (fRun d) l L).1 = 0 ∧ FC 70 [qv 0 l.length c, idV nil L 1 mc, .int .i64 (d : Nat)] 2 [(0, .cells (rws rc l) 0 false), (1, .cells (rws ic L) 3 false)] (OutRK (alR true (fRun d) l L).2)) := by
  unfold OutRK
  rw [show (alR true (fRun d) l L).2.length = l.length from alR_len _ _ _ _]
  cases nil with
  | true => exact p701z (mc := 0) hd (by omega) (by omega) (hn rfl)
  | false => exact p701 hd (by omega) (by omega)
theorem run_cases1 {nil : Bool} {l : List Rn} {L : List Int} {c mc d : Nat} (hd : d ≤ 10000000) (hl : l.length ≤ 17) (hL : L.length ≤ 17) (hn : nil = true → L = []) :
    (∃ e, e ≠ 0 ∧ FC 70 [qv 0 l.length c, idV nil L 1 mc, .int .i64 (d : Nat)] 2 [(0, .cells (rws rc l) 0 false), (1, .cells (rws ic L) 3 false)] (OutRE e)) ∨
    (∃ l1, l1 = (alR true (fRun d) l L).2 ∧ l1.length ≤ 17 ∧ okq 0 l = true ∧ (alR true (fRun d) l L).1 = 0 ∧ FC 70 [qv 0 l.length c, idV nil L 1 mc, .int .i64 (d : Nat)] 2 [(0, .cells (rws rc l) 0 false), (1, .cells (rws ic L) 3 false)] (OutRK l1)) := by
  rcases p70u (c := c) (mc := mc) hd hl hL hn with ⟨h1, h2⟩ | ⟨h1, h2, h3⟩
  · refine .inl ⟨_, ?_, h2⟩
    split
    · rename_i hq
      rcases h1 with h | h
      · rw [hq] at h; cases h
      · exact h
    · decide
  · exact .inr ⟨_, rfl, by rw [alR_len]; exact hl, h1, h2, h3⟩
theorem run_cases2 {nil : Bool} {l l1 : List Rn} {L : List Int} {c mc a b : Nat} (hab : a + b ≤ 10000000) (hl : l.length ≤ 17) (hL : L.length ≤ 17) (hn : nil = true → L = []) (hq : okq 0 l = true) (h : (alR true (fRun a) l L).1 = 0) (hl1 : l1 = (alR true (fRun a) l L).2) :
    (∃ e, e ≠ 0 ∧ (∀ c3, FC 70 [qv 0 l1.length c3, idV nil L 1 mc, .int .i64 (b : Nat)] 2 [(0, .cells (rws rc l1) 0 false), (1, .cells (rws ic L) 3 false)] (OutRE e)) ∧ FC 70 [qv 0 l.length c, idV nil L 1 mc, .int .i64 ((a + b : Nat) : Int)] 2 [(0, .cells (rws rc l) 0 false), (1, .cells (rws ic L) 3 false)] (OutRE e)) ∨
    (∃ l2 : List Rn, l2.length ≤ 17 ∧ (∀ c3, FC 70 [qv 0 l1.length c3, idV nil L 1 mc, .int .i64 (b : Nat)] 2 [(0, .cells (rws rc l1) 0 false), (1, .cells (rws ic L) 3 false)] (OutRK l2)) ∧ FC 70 [qv 0 l.length c, idV nil L 1 mc, .int .i64 ((a + b : Nat) : Int)] 2 [(0, .cells (rws rc l) 0 false), (1, .cells (rws ic L) 3 false)] (OutRK l2)) := by
  have hlen : l1.length ≤ 17 := by rw [hl1, alR_len]; exact hl
  obtain ⟨o1, _⟩ := run_one hq (by omega) h
  obtain ⟨t1, t2⟩ := run_twice hq hab h
  rw [← hl1] at o1 t1 t2
  by_cases h0 : (alR true (fRun (a + b)) l L).1 = 0
  · right
    refine ⟨(alR true (fRun (a + b)) l L).2, by rw [alR_len]; exact hl, fun c3 => ?_, ?_⟩
    · rcases p70u (c := c3) (mc := mc) (d := b) (by omega) hlen hL hn with ⟨h1, h2⟩ | ⟨h1, h2, h3⟩
      · rcases h1 with h1 | h1
        · rw [o1] at h1; cases h1
        · exact absurd (t1.trans h0) h1
      · rw [t2 h0] at h3
        exact h3
    · rcases p70u (c := c) (mc := mc) (d := a + b) hab hl hL hn with ⟨h1, h2⟩ | ⟨h1, h2, h3⟩
      · rcases h1 with h1 | h1
        · rw [hq] at h1; cases h1
        · exact absurd h0 h1
      · exact h3
  · left
    refine ⟨(alR true (fRun (a + b)) l L).1, h0, fun c3 => ?_, ?_⟩
    · rcases p70u (c := c3) (mc := mc) (d := b) (by omega) hlen hL hn with ⟨h1, h2⟩ | ⟨h1, h2, h3⟩
      · rw [if_pos o1, t1] at h2
        exact h2
      · exact absurd (t1.symm.trans h2) h0
    · rcases p70u (c := c) (mc := mc) (d := a + b) hab hl hL hn with ⟨h1, h2⟩ | ⟨h1, h2, h3⟩
      · rw [if_pos hq] at h2
        exact h2
      · exact absurd h2 h0
end Go.Proofs.Ytdfkcijholopoaa.Vm
namespace Go.Proofs.Ytdfkcijholopoaa.Vm
open Go Go.RowKit
set_option maxRecDepth 10000
set_option linter.unusedSimpArgs false
set_option linter.unusedVariables false

theorem p18 (x : List Rn) (c : Nat) (hc : x.length ≤ c) (ids : List Int) (mc : Nat) (hmc : ids.length ≤ mc) (a b : Int) : RO 18 [qv 0 x.length c, .slice (some ⟨1, 0, none⟩) ids.length mc, .agg #[.int .i64 a, .int .i64 b]] [(0, rws rc x), (1, rws ic ids)] (.bool true) := by
  refine ro_of _ 2 Try.func18 rfl Try.ntmps18 (by kernel_rfl) (by simp) rfl rfl (by simp) (by simp [rcs_plain, ics_plain]) ?_
  refine vc_seq ?_
  refine vc_go (by kernel_rfl) fun K hK => hK _ _ _ ?_
  clear hK K
  refine vc_seq ?_
  refine vc_seq ?_
  refine vc_reg (by kernel_rfl) fun K hK => ?_
  refine run_call (p38) rfl rfl rfl rfl ?_
  refine run_end (z := false) fun K' hK' => hK' _ _ _ (hK _ _ _ ?_)
  clear hK' K' hK K
  refine vc_cond (t := false) rfl (fun h => by cases h) (fun _ => ?_)
  refine vc_skip ?_
  refine vc_seq ?_
  refine vc_reg (by kernel_rfl) fun K hK => ?_
  refine run_n (z := false) 1 (fun K' hK' => hK' _ _ _ ?_) (by decide)
  clear hK' K'
  refine run_fc (fun k => (k, 0)) (p39 hc) (hasF ⟨sf_winp (rcs_plain x) rfl get_zero, trivial⟩ rfl) rfl rfl rfl rfl ⟨_, _, _, Nat.le_refl _, rfl, rfl⟩ ?_
  rintro _ _ ⟨c2, hlc, rfl, rfl⟩
  rw [renU_c (renB_p (spare_plain _ _)) renU_nil]
  have hl : (x.take 17).length ≤ 17 := take17 x
  generalize x.take 17 = l at *
  refine run_end (z := false) fun K' hK' => hK' _ _ _ (hK _ _ _ ?_)
  clear hK' K' hK K
  refine renF (fun k => if k = 0 then 6 else if k = 1 then 5 else if k = 2 then 3 else 1) [(1, .slice (some ⟨3, 0, none⟩) ids.length mc), (5, .pointer (some ⟨2, 0, none⟩)), (6, .bool false), (7, .pointer (some ⟨0, 0, none⟩))] [(0, .cells [.slice (some ⟨1, 0, none⟩) l.length c2] 55 true), (1, .cells (rws rc l) 67 false), (2, .cells [.int .i64 a, .int .i64 b] 104 true), (3, .cells (rws ic ids) 3 false)] 4 (by decide) (fun m hm => absurd hm (Nat.not_lt_zero m)) ⟨rfl, rfl, rfl, rfl, trivial⟩ ⟨sf_own rfl rfl, sf_winp (rcs_plain _) rfl get_zero_app, sf_ownp (by rfl) rfl rfl, sf_winp (ics_plain ids) rfl get_zero, trivial⟩ rfl (bdH_b (by decide) rfl (bdH_c (by decide) (rcs_plain l) (bdH_c (by decide) (by rfl) (bdH_c (by decide) (ics_plain ids) rfl)))) rfl ?_
  refine vc_seq ?_
  refine vc_reg (by kernel_rfl) fun K hK => ?_
  refine run_n (z := false) 3 (fun K' hK' => hK' _ _ _ ?_) (by decide)
  clear hK' K'
  refine run_fc (fun k => if k = 0 then (3, 0) else (1, 0)) (p69 hl hmc) (hasF ⟨sf_winp (ics_plain ids) rfl get_zero, sf_winp (rcs_plain l) rfl get_zero, trivial⟩ rfl) rfl rfl rfl rfl ⟨_, _, .inl ⟨rfl, rfl⟩⟩ ?_
  rintro _ _ (⟨rfl, rfl⟩ | ⟨L, cL, spL, hL, hpL, rfl, rfl⟩)
  · skip
    refine run_end (z := false) fun K' hK' => hK' _ _ _ (hK _ _ _ ?_)
    clear hK' K' hK K
    refine renF (fun k => if k = 3 then 2 else if k = 2 then 7 else k) [(5, .pointer (some ⟨3, 0, none⟩)), (6, .bool false), (7, .pointer (some ⟨0, 0, none⟩)), (8, .slice none 0 0)] [(0, .cells [.slice (some ⟨1, 0, none⟩) l.length c2] 55 true), (1, .cells (rws rc l) 67 false), (3, .cells [.int .i64 a, .int .i64 b] 104 true)] 4 (by decide) (fun m hm => absurd hm (Nat.not_lt_zero m)) ⟨rfl, rfl, rfl, rfl, trivial⟩ ⟨sf_own rfl rfl, sf_winp (rcs_plain l) rfl get_zero, sf_ownp (by rfl) rfl rfl, trivial⟩ rfl (bdH_b (by decide) rfl (bdH_c (by decide) (rcs_plain l) (bdH_c (by decide) (by rfl) rfl))) rfl ?_
    refine vc_seq ?_
    refine vc_goD [] (by kernel_rfl) (by kernel_rfl) fun K hK => hK _ _ _ _ ?_
    clear hK K
    refine vc_seq ?_
    obtain ⟨A, hA, eA⟩ := red a
    obtain ⟨B0, hB0, eB⟩ := red b
    refine vc_go (by kernel_rfl) fun K hK => hK _ _ _ ?_
    clear hK K
    refine refocusF [(6, .bool false), (7, .pointer (some ⟨0, 0, none⟩)), (8, .slice none 0 0), (9, .int .i64 ((A : Nat) : Int)), (10, .int .i64 ((B0 : Nat) : Int))] [(0, .cells [.slice (some ⟨1, 0, none⟩) l.length c2] 55 true), (1, .cells (rws rc l) 67 false)] 3 (by decide) ⟨rfl, rfl, rfl, ii eA, ii eB, trivial⟩ ⟨sb rfl, sb rfl, trivial⟩ rfl (bdH_b (by decide) rfl (bdH_c (by decide) (rcs_plain l) rfl)) ?_
    refine vc_seq ?_
    refine vc_mid (fun s => ∃ B : Nat, A + B ≤ 10000000 ∧ s = can [(6, .bool false), (7, .pointer (some ⟨0, 0, none⟩)), (8, .slice none 0 0), (9, .int .i64 ((A : Nat) : Int)), (10, .int .i64 ((B : Nat) : Int))] [(0, .cells [.slice (some ⟨1, 0, none⟩) l.length c2] 55 true), (1, .cells (rws rc l) 67 false)] 3) ?_ ?_
    · skip
      refine vc_seq ?_
      refine vc_go (by kernel_rfl) fun K hK => hK _ _ _ ?_
      clear hK K
      refine vc_cond rfl (fun h48 => ?_) (fun h48 => ?_)
      · -- cond 1 t48 true
        refine vc_go (by kernel_rfl) fun K hK => hK _ _ _ ?_
        clear hK K
        exact ⟨rfl, _, fg_focus [(6, .bool false), (7, .pointer (some ⟨0, 0, none⟩)), (8, .slice none 0 0), (9, .int .i64 ((A : Nat) : Int)), (10, .int .i64 (((10000000 - A) : Nat) : Int))] [(0, .cells [.slice (some ⟨1, 0, none⟩) l.length c2] 55 true), (1, .cells (rws rc l) 67 false)] 3 (by decide) ⟨rfl, rfl, rfl, rfl, ii (by rw [wrapI (by omega) (by omega)]; omega), trivial⟩ ⟨sb rfl, sb rfl, trivial⟩ rfl (bdH_b (by decide) rfl (bdH_c (by decide) (rcs_plain l) rfl)), 10000000 - A, by omega, rfl⟩
      · -- cond 1 t48 false
        refine vc_skip ?_
        exact ⟨rfl, _, fg_focus [(6, .bool false), (7, .pointer (some ⟨0, 0, none⟩)), (8, .slice none 0 0), (9, .int .i64 ((A : Nat) : Int)), (10, .int .i64 ((B0 : Nat) : Int))] [(0, .cells [.slice (some ⟨1, 0, none⟩) l.length c2] 55 true), (1, .cells (rws rc l) 67 false)] 3 (by decide) ⟨rfl, rfl, rfl, rfl, rfl, trivial⟩ ⟨sb rfl, sb rfl, trivial⟩ rfl (bdH_b (by decide) rfl (bdH_c (by decide) (rcs_plain l) rfl)), B0, by rw [decide_eq_false_iff_not, wrapI (by omega) (by omega)] at h48; omega, rfl⟩
    · skip
      rintro s2 ⟨B, hAB, rfl⟩
      refine vc_seq ?_
      rcases run_cases1 (nil := true) (l := l) (L := ([] : List Int)) (c := c2) (mc := 0) (d := A) (by omega) hl (by decide) (fun _ => rfl) with ⟨e, he, h70⟩ | ⟨l1, hl1e, hl1, hq, h1, h70⟩
      · skip
        refine vc_reg (by kernel_rfl) fun K hK => ?_
        refine run_n (z := false) 3 (fun K' hK' => hK' _ _ _ ?_) (by decide)
        clear hK' K'
        refine run_fc (fun k => if k = 0 then (1, 0) else (1, 0)) h70 (hasF ⟨sf_winp (rcs_plain _) rfl get_zero, sf_winp (ics_plain ([] : List Int)) rfl (fun i v hv => by simp [rws] at hv), trivial⟩ rfl) rfl rfl rfl rfl ⟨_, _, rfl, rfl⟩ ?_
        rintro _ _ ⟨rfl, rfl⟩
        refine run_end (z := false) fun K' hK' => hK' _ _ _ (hK _ _ _ ?_)
        clear hK' K' hK K
        refine vc_seq ?_
        refine vc_seq ?_
        refine vc_go (by kernel_rfl) fun K hK => hK _ _ _ ?_
        clear hK K
        refine vc_cond (t := true) (bb (bne_iff_ne.2 he)) (fun _ => ?_) (fun h => by cases h)
        refine vc_seq ?_
        refine vc_go (by kernel_rfl) fun K hK => hK _ _ _ ?_
        clear hK K
        exact vc_ret ⟨.inr rfl, rfl⟩
      · skip
        refine vc_reg (by kernel_rfl) fun K hK => ?_
        refine run_n (z := false) 3 (fun K' hK' => hK' _ _ _ ?_) (by decide)
        clear hK' K'
        refine run_fc (fun k => if k = 0 then (1, 0) else (1, 0)) h70 (hasF ⟨sf_winp (rcs_plain _) rfl get_zero, sf_winp (ics_plain ([] : List Int)) rfl (fun i v hv => by simp [rws] at hv), trivial⟩ rfl) rfl rfl rfl rfl ⟨_, _, 0, [], rfl, rfl, rfl⟩ ?_
        rintro _ _ ⟨c3, sp3, hp3, rfl, rfl⟩
        rw [renU_c (renB_p (plainL_append (rcs_plain _) hp3)) renU_nil]
        refine run_end (z := false) fun K' hK' => hK' _ _ _ (hK _ _ _ ?_)
        clear hK' K' hK K
        refine refocusF [(6, .bool false), (7, .pointer (some ⟨0, 0, none⟩)), (8, .slice none 0 0), (9, .int .i64 ((A : Nat) : Int)), (10, .int .i64 ((B : Nat) : Int)), (11, .pointer (some ⟨10, 0, none⟩)), (12, .int .i64 0)] [(0, .cells [.slice (some ⟨1, 0, none⟩) l.length c2] 55 true), (1, .cells (rws rc l) 67 false), (6, .cells (rws rc l1 ++ sp3) 67 true), (10, .cells [.slice (some ⟨6, 0, none⟩) l1.length c3] 55 true)] 11 (by decide) ⟨rfl, rfl, rfl, rfl, rfl, rfl, rfl, trivial⟩ ⟨sb rfl, sb rfl, sb rfl, sb rfl, trivial⟩ rfl (bdH_b (by decide) rfl (bdH_c (by decide) (rcs_plain l) (bdH_c (by decide) (plainL_append (rcs_plain _) hp3) (bdH_b (by decide) rfl rfl)))) ?_
        refine vc_seq ?_
        refine vc_seq ?_
        refine vc_go (by kernel_rfl) fun K hK => hK _ _ _ ?_
        clear hK K
        refine vc_cond (t := false) (bb (by simp)) (fun h => by cases h) (fun _ => ?_)
        refine vc_skip ?_
        refine vc_seq ?_
        have hw : IntKind.i64.wrap ((A : Int) + (B : Int)) = ((A + B : Nat) : Int) := by rw [wrapI (by omega) (by omega)]; omega
        rcases run_cases2 (nil := true) (l := l) (l1 := l1) (L := ([] : List Int)) (c := c2) (mc := 0) hAB hl (by decide) (fun _ => rfl) hq h1 hl1e with ⟨e, he, h70a, h70b⟩ | ⟨l2, hl2, h70a, h70b⟩
        · skip
          refine vc_reg (by kernel_rfl) fun K hK => ?_
          refine run_n (z := false) 3 (fun K' hK' => hK' _ _ _ ?_) (by decide)
          clear hK' K'
          refine run_fc (fun k => if k = 0 then (6, 0) else (1, 0)) (h70a c3) (hasF ⟨sf_winp (rcs_plain _) rfl get_zero_app, sf_winp (ics_plain ([] : List Int)) rfl (fun i v hv => by simp [rws] at hv), trivial⟩ rfl) rfl rfl rfl rfl ⟨_, _, rfl, rfl⟩ ?_
          rintro _ _ ⟨rfl, rfl⟩
          refine run_end (z := false) fun K' hK' => hK' _ _ _ (hK _ _ _ ?_)
          clear hK' K' hK K
          refine vc_seq ?_
          refine vc_reg (by kernel_rfl) fun K hK => ?_
          refine run_n (z := false) 5 (fun K' hK' => hK' _ _ _ ?_) (by decide)
          clear hK' K'
          refine run_fc (fun k => if k = 0 then (1, 0) else (1, 0)) h70b (hasF ⟨sf_winp (rcs_plain _) rfl get_zero, sf_winp (ics_plain ([] : List Int)) rfl (fun i v hv => by simp [rws] at hv), trivial⟩ rfl) rfl rfl (congrArg (fun x => [qv 1 l.length c2, .slice none 0 0, .int .i64 x]) hw) rfl ⟨_, _, rfl, rfl⟩ ?_
          rintro _ _ ⟨rfl, rfl⟩
          refine run_end (z := false) fun K' hK' => hK' _ _ _ (hK _ _ _ ?_)
          clear hK' K' hK K
          refine vc_seq ?_
          refine vc_seq ?_
          refine vc_reg (by kernel_rfl) fun K hK => ?_
          refine run_n (z := false) 4 (fun K' hK' => hK' _ _ _ ?_) (by decide)
          clear hK' K'
          refine vgo_known 83 (b := false) (bb (by simp)) ?_
          refine run_n (z := false) 3 (fun K' hK' => hK' _ _ _ ?_) (by decide)
          clear hK' K'
          refine vgo_known 86 (b := false) (bb (by simpa using he)) ?_
          refine run_end (z := false) fun K' hK' => hK' _ _ _ (hK _ _ _ ?_)
          clear hK' K' hK K
          refine vc_cond (t := false) rfl (fun h => by cases h) (fun _ => ?_)
          refine vc_skip ?_
          refine vc_seq ?_
          refine vc_seq ?_
          refine vc_go (by kernel_rfl) fun K hK => hK _ _ _ ?_
          clear hK K
          refine vc_block ?_
          refine vc_loopF (fun n s => ∃ (j : Nat), n = l1.length - j ∧ j ≤ l1.length ∧ s = can [(6, .bool false), (7, .pointer (some ⟨0, 0, none⟩)), (8, .slice none 0 0), (9, .int .i64 ((A : Nat) : Int)), (94, .slice (some ⟨3, 0, none⟩) l1.length c3), (95, .int .i64 (l1.length : Int)), (96, .int .i64 ((j : Nat) : Int))] [(0, .cells [.slice (some ⟨1, 0, none⟩) l.length c2] 55 true), (1, .cells (rws rc l) 67 false), (3, .cells (rws rc l1 ++ sp3) 67 true)] 4) l1.length ?_ ?_
          · exact ⟨_, fg_ren (fun k => if k = 3 then 6 else k) [(6, .bool false), (7, .pointer (some ⟨0, 0, none⟩)), (8, .slice none 0 0), (9, .int .i64 ((A : Nat) : Int)), (94, .slice (some ⟨3, 0, none⟩) l1.length c3), (95, .int .i64 (l1.length : Int)), (96, .int .i64 ((0 : Nat) : Int))] [(0, .cells [.slice (some ⟨1, 0, none⟩) l.length c2] 55 true), (1, .cells (rws rc l) 67 false), (3, .cells (rws rc l1 ++ sp3) 67 true)] 4 (by decide) (fun m hm => absurd hm (Nat.not_lt_zero m)) ⟨rfl, rfl, rfl, rfl, rfl, rfl, rfl, trivial⟩ ⟨sf_own rfl rfl, sf_winp (rcs_plain l) rfl get_zero, sf_ownp (plainL_append (rcs_plain _) hp3) rfl rfl, trivial⟩ rfl (bdH_b (by decide) rfl (bdH_c (by decide) (rcs_plain l) (bdH_c (by decide) (plainL_append (rcs_plain _) hp3) rfl))) rfl, 0, rfl, Nat.zero_le _, rfl⟩
          · rintro n s ⟨j, hn, hj, rfl⟩
            refine vc_seq ?_
            refine vc_go (by kernel_rfl) fun K hK => hK _ _ _ ?_
            clear hK K
            refine vc_seq ?_
            refine vc_cond rfl (fun c0 => ?_) (fun c0 => ?_)
            · -- cond 5 t97 true
              refine vc_skip ?_
              refine vc_seq ?_
              refine vc_block ?_
              refine vc_seq ?_
              have hlt := len_le c0
              obtain ⟨r, hr⟩ : ∃ r, l1[j]? = some r := ⟨l1[j], List.getElem?_eq_getElem hlt⟩
              obtain ⟨was, hg, _, hid, hokw, hrun⟩ := (run_one hq (by omega) h1).2 j r (by rw [← hl1e]; exact hr)
              have h43 := p43 l c2 r.id (by omega)
              rw [hg] at h43
              have hrt : rt was.n was.w = true := okR_rt hokw
              refine vc_reg (by kernel_rfl) fun K hK => ?_
              refine run_op (vex_ixs (j := j) rfl rfl rfl hlt rfl rfl) rfl ?_
              refine run_rd (vex_ldr rc_len (j := 0) (i := j) (d := rc r) rfl (Nat.zero_add _) rfl (rfl) rfl hr (by decide) rfl) rfl ?_
              refine run_end (z := false) fun K' hK' => hK' _ _ _ (hK _ _ _ ?_)
              clear hK' K' hK K
              refine vc_seq ?_
              refine vc_reg (by kernel_rfl) fun K hK => ?_
              refine run_n (z := false) 3 (fun K' hK' => hK' _ _ _ ?_) (by decide)
              clear hK' K'
              refine run_ro (fun _ => (1, 0)) (h43) ?_ rfl rfl rfl rfl ?_
              · intro x hx
                simp only [List.mem_singleton] at hx
                subst hx
                exact ⟨_, _, _, rfl, fun i v hv => by rw [Nat.zero_add]; exact hv⟩
              refine run_end (z := false) fun K' hK' => hK' _ _ _ (hK _ _ _ ?_)
              clear hK' K' hK K
              refine vc_seq ?_
              refine vc_seq ?_
              refine vc_go (by kernel_rfl) fun K hK => hK _ _ _ ?_
              clear hK K
              refine vc_cond (t := false) rfl (fun h => by cases h) (fun _ => ?_)
              refine vc_skip ?_
              refine vc_seq ?_
              refine vc_go (by kernel_rfl) fun K hK => hK _ _ _ ?_
              clear hK K
              refine vc_seq ?_
              refine vc_seq ?_
              refine vc_go (by kernel_rfl) fun K hK => hK _ _ _ ?_
              clear hK K
              refine vc_block ?_
              refine vc_rounds 1 ?_
              refine vc_seq ?_
              refine vc_go (by kernel_rfl) fun K hK => hK _ _ _ ?_
              clear hK K
              refine vc_seq ?_
              refine vc_cond (t := false) rfl (fun h => by cases h) (fun _ => ?_)
              refine vc_exit ?_
              refine vc_seq ?_
              skip
              · rw [if_neg (by simp)] at hrun
                obtain ⟨n9, w9, e9, h63⟩ : ∃ (n9 w9 : Nat) (e9 : Int), Pure 63 [fr was.n was.w, u64 (kR A was)] (.tuple #[fr n9 w9, .int .i64 e9]) := by
                  by_cases hs : was.n + kR A was < 2 ^ 100
                  · exact ⟨_, _, _, p63y hrt (kR_lt A was) hs⟩
                  · exact ⟨_, _, _, p63r hrt (kR_lt A was) hs⟩
                refine vc_reg (by kernel_rfl) fun K hK => ?_
                refine run_n (z := false) 8 (fun K' hK' => hK' _ _ _ ?_) (by decide)
                clear hK' K'
                refine run_call h63 rfl (congrArg (fun x => [fr was.n was.w, .int .u64 x]) (kR_raw (by omega) was)) rfl rfl ?_
                refine run_end (z := false) fun K' hK' => hK' _ _ _ (hK _ _ _ ?_)
                clear hK' K' hK K
                refine vc_seq ?_
                refine vc_reg (by kernel_rfl) fun K hK => ?_
                refine run_n (z := false) 2 (fun K' hK' => hK' _ _ _ ?_) (by decide)
                clear hK' K'
                refine vgo_known 136 (b := false) (rfl) ?_
                refine run_n (z := false) 10 (fun K' hK' => hK' _ _ _ ?_) (by decide)
                clear hK' K'
                refine vgo_known 146 (b := false) (rfl) ?_
                refine run_n (z := false) 3 (fun K' hK' => hK' _ _ _ ?_) (by decide)
                clear hK' K'
                refine vgo_known 149 (b := true) (rfl) ?_
                refine run_end (z := false) fun K' hK' => hK' _ _ _ (hK _ _ _ ?_)
                clear hK' K' hK K
                refine vc_cond (t := false) (bb (by rw [rn_beq]; first | (rw [decide_eq_true (show r = (some was).getD z0 from hrun)]; rfl) | (rw [decide_eq_true hrun]; rfl))) (fun h => by cases h) (fun _ => ?_)
                refine vc_skip ?_
                refine vc_go (by kernel_rfl) fun K hK => hK _ _ _ ?_
                clear hK K
                exact ⟨_, fg_focus [(6, .bool false), (7, .pointer (some ⟨0, 0, none⟩)), (8, .slice none 0 0), (9, .int .i64 ((A : Nat) : Int)), (94, .slice (some ⟨3, 0, none⟩) l1.length c3), (95, .int .i64 (l1.length : Int)), (96, .int .i64 ((j + 1 : Nat) : Int))] [(0, .cells [.slice (some ⟨1, 0, none⟩) l.length c2] 55 true), (1, .cells (rws rc l) 67 false), (3, .cells (rws rc l1 ++ sp3) 67 true)] 4 (by decide) ⟨rfl, rfl, rfl, rfl, rfl, rfl, ii (wrapI (by omega) (by omega)), trivial⟩ ⟨sb rfl, sb rfl, sb rfl, trivial⟩ rfl (bdH_b (by decide) rfl (bdH_c (by decide) (rcs_plain l) (bdH_c (by decide) (plainL_append (rcs_plain _) hp3) rfl))), l1.length - (j + 1), by omega, j + 1, rfl, hlt, rfl⟩
            · -- cond 5 t97 false
              refine vc_exit ?_
              refine vc_seq ?_
              refine vc_go (by kernel_rfl) fun K hK => hK _ _ _ ?_
              clear hK K
              exact vc_ret ⟨.inr rfl, rfl⟩
        · skip
          refine vc_reg (by kernel_rfl) fun K hK => ?_
          refine run_n (z := false) 3 (fun K' hK' => hK' _ _ _ ?_) (by decide)
          clear hK' K'
          refine run_fc (fun k => if k = 0 then (6, 0) else (1, 0)) (h70a c3) (hasF ⟨sf_winp (rcs_plain _) rfl get_zero_app, sf_winp (ics_plain ([] : List Int)) rfl (fun i v hv => by simp [rws] at hv), trivial⟩ rfl) rfl rfl rfl rfl ⟨_, _, 0, [], rfl, rfl, rfl⟩ ?_
          rintro _ _ ⟨c4, sp4, hp4, rfl, rfl⟩
          rw [renU_c (renB_p (plainL_append (rcs_plain _) hp4)) renU_nil]
          refine run_end (z := false) fun K' hK' => hK' _ _ _ (hK _ _ _ ?_)
          clear hK' K' hK K
          refine vc_seq ?_
          refine vc_reg (by kernel_rfl) fun K hK => ?_
          refine run_n (z := false) 5 (fun K' hK' => hK' _ _ _ ?_) (by decide)
          clear hK' K'
          refine run_fc (fun k => if k = 0 then (1, 0) else (1, 0)) h70b (hasF ⟨sf_winp (rcs_plain _) rfl get_zero, sf_winp (ics_plain ([] : List Int)) rfl (fun i v hv => by simp [rws] at hv), trivial⟩ rfl) rfl rfl (congrArg (fun x => [qv 1 l.length c2, .slice none 0 0, .int .i64 x]) hw) rfl ⟨_, _, 0, [], rfl, rfl, rfl⟩ ?_
          rintro _ _ ⟨c5, sp5, hp5, rfl, rfl⟩
          rw [renU_c (renB_p (plainL_append (rcs_plain _) hp5)) renU_nil]
          refine run_end (z := false) fun K' hK' => hK' _ _ _ (hK _ _ _ ?_)
          clear hK' K' hK K
          refine vc_seq ?_
          refine vc_seq ?_
          refine vc_reg (by kernel_rfl) fun K hK => ?_
          refine run_n (z := false) 4 (fun K' hK' => hK' _ _ _ ?_) (by decide)
          clear hK' K'
          refine vgo_known 83 (b := false) (bb (by simp)) ?_
          refine run_n (z := false) 3 (fun K' hK' => hK' _ _ _ ?_) (by decide)
          clear hK' K'
          refine vgo_known 86 (b := true) (rfl) ?_
          refine run_n (z := false) 2 (fun K' hK' => hK' _ _ _ ?_) (by decide)
          clear hK' K'
          refine run_ro (fun k => if k = 0 then (14, 0) else (24, 0)) (same_ro l2 c4 c5 (by omega)) ?_ rfl rfl rfl rfl ?_
          · intro x hx
            simp only [List.mem_cons, List.mem_singleton, List.not_mem_nil, or_false] at hx
            rcases hx with rfl | rfl
            · exact ⟨_, _, _, rfl, get_zero_app⟩
            · exact ⟨_, _, _, rfl, get_zero_app⟩
          refine run_end (z := false) fun K' hK' => hK' _ _ _ (hK _ _ _ ?_)
          clear hK' K' hK K
          refine vc_cond (t := false) rfl (fun h => by cases h) (fun _ => ?_)
          refine vc_skip ?_
          refine vc_seq ?_
          refine vc_seq ?_
          refine vc_go (by kernel_rfl) fun K hK => hK _ _ _ ?_
          clear hK K
          refine vc_block ?_
          refine vc_loopF (fun n s => ∃ (j : Nat), n = l1.length - j ∧ j ≤ l1.length ∧ s = can [(6, .bool false), (7, .pointer (some ⟨0, 0, none⟩)), (8, .slice none 0 0), (9, .int .i64 ((A : Nat) : Int)), (94, .slice (some ⟨3, 0, none⟩) l1.length c3), (95, .int .i64 (l1.length : Int)), (96, .int .i64 ((j : Nat) : Int))] [(0, .cells [.slice (some ⟨1, 0, none⟩) l.length c2] 55 true), (1, .cells (rws rc l) 67 false), (3, .cells (rws rc l1 ++ sp3) 67 true)] 4) l1.length ?_ ?_
          · exact ⟨_, fg_ren (fun k => if k = 3 then 6 else k) [(6, .bool false), (7, .pointer (some ⟨0, 0, none⟩)), (8, .slice none 0 0), (9, .int .i64 ((A : Nat) : Int)), (94, .slice (some ⟨3, 0, none⟩) l1.length c3), (95, .int .i64 (l1.length : Int)), (96, .int .i64 ((0 : Nat) : Int))] [(0, .cells [.slice (some ⟨1, 0, none⟩) l.length c2] 55 true), (1, .cells (rws rc l) 67 false), (3, .cells (rws rc l1 ++ sp3) 67 true)] 4 (by decide) (fun m hm => absurd hm (Nat.not_lt_zero m)) ⟨rfl, rfl, rfl, rfl, rfl, rfl, rfl, trivial⟩ ⟨sf_own rfl rfl, sf_winp (rcs_plain l) rfl get_zero, sf_ownp (plainL_append (rcs_plain _) hp3) rfl rfl, trivial⟩ rfl (bdH_b (by decide) rfl (bdH_c (by decide) (rcs_plain l) (bdH_c (by decide) (plainL_append (rcs_plain _) hp3) rfl))) rfl, 0, rfl, Nat.zero_le _, rfl⟩
          · rintro n s ⟨j, hn, hj, rfl⟩
            refine vc_seq ?_
            refine vc_go (by kernel_rfl) fun K hK => hK _ _ _ ?_
            clear hK K
            refine vc_seq ?_
            refine vc_cond rfl (fun c0 => ?_) (fun c0 => ?_)
            · -- cond 10 t97 true
              refine vc_skip ?_
              refine vc_seq ?_
              refine vc_block ?_
              refine vc_seq ?_
              have hlt := len_le c0
              obtain ⟨r, hr⟩ : ∃ r, l1[j]? = some r := ⟨l1[j], List.getElem?_eq_getElem hlt⟩
              obtain ⟨was, hg, _, hid, hokw, hrun⟩ := (run_one hq (by omega) h1).2 j r (by rw [← hl1e]; exact hr)
              have h43 := p43 l c2 r.id (by omega)
              rw [hg] at h43
              have hrt : rt was.n was.w = true := okR_rt hokw
              refine vc_reg (by kernel_rfl) fun K hK => ?_
              refine run_op (vex_ixs (j := j) rfl rfl rfl hlt rfl rfl) rfl ?_
              refine run_rd (vex_ldr rc_len (j := 0) (i := j) (d := rc r) rfl (Nat.zero_add _) rfl (rfl) rfl hr (by decide) rfl) rfl ?_
              refine run_end (z := false) fun K' hK' => hK' _ _ _ (hK _ _ _ ?_)
              clear hK' K' hK K
              refine vc_seq ?_
              refine vc_reg (by kernel_rfl) fun K hK => ?_
              refine run_n (z := false) 3 (fun K' hK' => hK' _ _ _ ?_) (by decide)
              clear hK' K'
              refine run_ro (fun _ => (1, 0)) (h43) ?_ rfl rfl rfl rfl ?_
              · intro x hx
                simp only [List.mem_singleton] at hx
                subst hx
                exact ⟨_, _, _, rfl, fun i v hv => by rw [Nat.zero_add]; exact hv⟩
              refine run_end (z := false) fun K' hK' => hK' _ _ _ (hK _ _ _ ?_)
              clear hK' K' hK K
              refine vc_seq ?_
              refine vc_seq ?_
              refine vc_go (by kernel_rfl) fun K hK => hK _ _ _ ?_
              clear hK K
              refine vc_cond (t := false) rfl (fun h => by cases h) (fun _ => ?_)
              refine vc_skip ?_
              refine vc_seq ?_
              refine vc_go (by kernel_rfl) fun K hK => hK _ _ _ ?_
              clear hK K
              refine vc_seq ?_
              refine vc_seq ?_
              refine vc_go (by kernel_rfl) fun K hK => hK _ _ _ ?_
              clear hK K
              refine vc_block ?_
              refine vc_rounds 1 ?_
              refine vc_seq ?_
              refine vc_go (by kernel_rfl) fun K hK => hK _ _ _ ?_
              clear hK K
              refine vc_seq ?_
              refine vc_cond (t := false) rfl (fun h => by cases h) (fun _ => ?_)
              refine vc_exit ?_
              refine vc_seq ?_
              skip
              · rw [if_neg (by simp)] at hrun
                obtain ⟨n9, w9, e9, h63⟩ : ∃ (n9 w9 : Nat) (e9 : Int), Pure 63 [fr was.n was.w, u64 (kR A was)] (.tuple #[fr n9 w9, .int .i64 e9]) := by
                  by_cases hs : was.n + kR A was < 2 ^ 100
                  · exact ⟨_, _, _, p63y hrt (kR_lt A was) hs⟩
                  · exact ⟨_, _, _, p63r hrt (kR_lt A was) hs⟩
                refine vc_reg (by kernel_rfl) fun K hK => ?_
                refine run_n (z := false) 8 (fun K' hK' => hK' _ _ _ ?_) (by decide)
                clear hK' K'
                refine run_call h63 rfl (congrArg (fun x => [fr was.n was.w, .int .u64 x]) (kR_raw (by omega) was)) rfl rfl ?_
                refine run_end (z := false) fun K' hK' => hK' _ _ _ (hK _ _ _ ?_)
                clear hK' K' hK K
                refine vc_seq ?_
                refine vc_reg (by kernel_rfl) fun K hK => ?_
                refine run_n (z := false) 2 (fun K' hK' => hK' _ _ _ ?_) (by decide)
                clear hK' K'
                refine vgo_known 136 (b := false) (rfl) ?_
                refine run_n (z := false) 10 (fun K' hK' => hK' _ _ _ ?_) (by decide)
                clear hK' K'
                refine vgo_known 146 (b := false) (rfl) ?_
                refine run_n (z := false) 3 (fun K' hK' => hK' _ _ _ ?_) (by decide)
                clear hK' K'
                refine vgo_known 149 (b := true) (rfl) ?_
                refine run_end (z := false) fun K' hK' => hK' _ _ _ (hK _ _ _ ?_)
                clear hK' K' hK K
                refine vc_cond (t := false) (bb (by rw [rn_beq]; first | (rw [decide_eq_true (show r = (some was).getD z0 from hrun)]; rfl) | (rw [decide_eq_true hrun]; rfl))) (fun h => by cases h) (fun _ => ?_)
                refine vc_skip ?_
                refine vc_go (by kernel_rfl) fun K hK => hK _ _ _ ?_
                clear hK K
                exact ⟨_, fg_focus [(6, .bool false), (7, .pointer (some ⟨0, 0, none⟩)), (8, .slice none 0 0), (9, .int .i64 ((A : Nat) : Int)), (94, .slice (some ⟨3, 0, none⟩) l1.length c3), (95, .int .i64 (l1.length : Int)), (96, .int .i64 ((j + 1 : Nat) : Int))] [(0, .cells [.slice (some ⟨1, 0, none⟩) l.length c2] 55 true), (1, .cells (rws rc l) 67 false), (3, .cells (rws rc l1 ++ sp3) 67 true)] 4 (by decide) ⟨rfl, rfl, rfl, rfl, rfl, rfl, ii (wrapI (by omega) (by omega)), trivial⟩ ⟨sb rfl, sb rfl, sb rfl, trivial⟩ rfl (bdH_b (by decide) rfl (bdH_c (by decide) (rcs_plain l) (bdH_c (by decide) (plainL_append (rcs_plain _) hp3) rfl))), l1.length - (j + 1), by omega, j + 1, rfl, hlt, rfl⟩
            · -- cond 10 t97 false
              refine vc_exit ?_
              refine vc_seq ?_
              refine vc_go (by kernel_rfl) fun K hK => hK _ _ _ ?_
              clear hK K
              exact vc_ret ⟨.inr rfl, rfl⟩
  · rw [renU_c (renB_p (plainL_append (ics_plain _) hpL)) renU_nil]
    refine run_end (z := false) fun K' hK' => hK' _ _ _ (hK _ _ _ ?_)
    clear hK' K' hK K
    refine renF (fun k => if k = 3 then 2 else if k = 2 then 7 else k) [(5, .pointer (some ⟨3, 0, none⟩)), (6, .bool false), (7, .pointer (some ⟨0, 0, none⟩)), (8, .slice (some ⟨2, 0, none⟩) L.length cL)] [(0, .cells [.slice (some ⟨1, 0, none⟩) l.length c2] 55 true), (1, .cells (rws rc l) 67 false), (2, .cells (rws ic L ++ spL) 3 true), (3, .cells [.int .i64 a, .int .i64 b] 104 true)] 4 (by decide) (fun m hm => absurd hm (Nat.not_lt_zero m)) ⟨rfl, rfl, rfl, rfl, trivial⟩ ⟨sf_own rfl rfl, sf_winp (rcs_plain l) rfl get_zero, sf_ownp (plainL_append (ics_plain _) hpL) rfl rfl, sf_ownp (by rfl) rfl rfl, trivial⟩ rfl (bdH_b (by decide) rfl (bdH_c (by decide) (rcs_plain l) (bdH_c (by decide) (plainL_append (ics_plain _) hpL) (bdH_c (by decide) (by rfl) rfl)))) rfl ?_
    refine vc_seq ?_
    refine vc_goD [] (by kernel_rfl) (by kernel_rfl) fun K hK => hK _ _ _ _ ?_
    clear hK K
    refine vc_seq ?_
    obtain ⟨A, hA, eA⟩ := red a
    obtain ⟨B0, hB0, eB⟩ := red b
    refine vc_go (by kernel_rfl) fun K hK => hK _ _ _ ?_
    clear hK K
    refine refocusF [(6, .bool false), (7, .pointer (some ⟨0, 0, none⟩)), (8, .slice (some ⟨2, 0, none⟩) L.length cL), (9, .int .i64 ((A : Nat) : Int)), (10, .int .i64 ((B0 : Nat) : Int))] [(0, .cells [.slice (some ⟨1, 0, none⟩) l.length c2] 55 true), (1, .cells (rws rc l) 67 false), (2, .cells (rws ic L ++ spL) 3 true)] 3 (by decide) ⟨rfl, rfl, rfl, ii eA, ii eB, trivial⟩ ⟨sb rfl, sb rfl, sb rfl, trivial⟩ rfl (bdH_b (by decide) rfl (bdH_c (by decide) (rcs_plain l) (bdH_c (by decide) (plainL_append (ics_plain _) hpL) rfl))) ?_
    refine vc_seq ?_
    refine vc_mid (fun s => ∃ B : Nat, A + B ≤ 10000000 ∧ s = can [(6, .bool false), (7, .pointer (some ⟨0, 0, none⟩)), (8, .slice (some ⟨2, 0, none⟩) L.length cL), (9, .int .i64 ((A : Nat) : Int)), (10, .int .i64 ((B : Nat) : Int))] [(0, .cells [.slice (some ⟨1, 0, none⟩) l.length c2] 55 true), (1, .cells (rws rc l) 67 false), (2, .cells (rws ic L ++ spL) 3 true)] 3) ?_ ?_
    · skip
      refine vc_seq ?_
      refine vc_go (by kernel_rfl) fun K hK => hK _ _ _ ?_
      clear hK K
      refine vc_cond rfl (fun h48 => ?_) (fun h48 => ?_)
      · -- cond 14 t48 true
        refine vc_go (by kernel_rfl) fun K hK => hK _ _ _ ?_
        clear hK K
        exact ⟨rfl, _, fg_focus [(6, .bool false), (7, .pointer (some ⟨0, 0, none⟩)), (8, .slice (some ⟨2, 0, none⟩) L.length cL), (9, .int .i64 ((A : Nat) : Int)), (10, .int .i64 (((10000000 - A) : Nat) : Int))] [(0, .cells [.slice (some ⟨1, 0, none⟩) l.length c2] 55 true), (1, .cells (rws rc l) 67 false), (2, .cells (rws ic L ++ spL) 3 true)] 3 (by decide) ⟨rfl, rfl, rfl, rfl, ii (by rw [wrapI (by omega) (by omega)]; omega), trivial⟩ ⟨sb rfl, sb rfl, sb rfl, trivial⟩ rfl (bdH_b (by decide) rfl (bdH_c (by decide) (rcs_plain l) (bdH_c (by decide) (plainL_append (ics_plain _) hpL) rfl))), 10000000 - A, by omega, rfl⟩
      · -- cond 14 t48 false
        refine vc_skip ?_
        exact ⟨rfl, _, fg_focus [(6, .bool false), (7, .pointer (some ⟨0, 0, none⟩)), (8, .slice (some ⟨2, 0, none⟩) L.length cL), (9, .int .i64 ((A : Nat) : Int)), (10, .int .i64 ((B0 : Nat) : Int))] [(0, .cells [.slice (some ⟨1, 0, none⟩) l.length c2] 55 true), (1, .cells (rws rc l) 67 false), (2, .cells (rws ic L ++ spL) 3 true)] 3 (by decide) ⟨rfl, rfl, rfl, rfl, rfl, trivial⟩ ⟨sb rfl, sb rfl, sb rfl, trivial⟩ rfl (bdH_b (by decide) rfl (bdH_c (by decide) (rcs_plain l) (bdH_c (by decide) (plainL_append (ics_plain _) hpL) rfl))), B0, by rw [decide_eq_false_iff_not, wrapI (by omega) (by omega)] at h48; omega, rfl⟩
    · skip
      rintro s2 ⟨B, hAB, rfl⟩
      refine vc_seq ?_
      rcases run_cases1 (nil := false) (l := l) (L := L) (c := c2) (mc := cL) (d := A) (by omega) hl hL (fun h => by cases h) with ⟨e, he, h70⟩ | ⟨l1, hl1e, hl1, hq, h1, h70⟩
      · skip
        refine vc_reg (by kernel_rfl) fun K hK => ?_
        refine run_n (z := false) 3 (fun K' hK' => hK' _ _ _ ?_) (by decide)
        clear hK' K'
        refine run_fc (fun k => if k = 0 then (1, 0) else (2, 0)) h70 (hasF ⟨sf_winp (rcs_plain _) rfl get_zero, sf_winp (ics_plain L) rfl get_zero_app, trivial⟩ rfl) rfl rfl rfl rfl ⟨_, _, rfl, rfl⟩ ?_
        rintro _ _ ⟨rfl, rfl⟩
        refine run_end (z := false) fun K' hK' => hK' _ _ _ (hK _ _ _ ?_)
        clear hK' K' hK K
        refine vc_seq ?_
        refine vc_seq ?_
        refine vc_go (by kernel_rfl) fun K hK => hK _ _ _ ?_
        clear hK K
        refine vc_cond (t := true) (bb (bne_iff_ne.2 he)) (fun _ => ?_) (fun h => by cases h)
        refine vc_seq ?_
        refine vc_go (by kernel_rfl) fun K hK => hK _ _ _ ?_
        clear hK K
        exact vc_ret ⟨.inr rfl, rfl⟩
      · skip
        refine vc_reg (by kernel_rfl) fun K hK => ?_
        refine run_n (z := false) 3 (fun K' hK' => hK' _ _ _ ?_) (by decide)
        clear hK' K'
        refine run_fc (fun k => if k = 0 then (1, 0) else (2, 0)) h70 (hasF ⟨sf_winp (rcs_plain _) rfl get_zero, sf_winp (ics_plain L) rfl get_zero_app, trivial⟩ rfl) rfl rfl rfl rfl ⟨_, _, 0, [], rfl, rfl, rfl⟩ ?_
        rintro _ _ ⟨c3, sp3, hp3, rfl, rfl⟩
        rw [renU_c (renB_p (plainL_append (rcs_plain _) hp3)) renU_nil]
        refine run_end (z := false) fun K' hK' => hK' _ _ _ (hK _ _ _ ?_)
        clear hK' K' hK K
        refine refocusF [(6, .bool false), (7, .pointer (some ⟨0, 0, none⟩)), (8, .slice (some ⟨2, 0, none⟩) L.length cL), (9, .int .i64 ((A : Nat) : Int)), (10, .int .i64 ((B : Nat) : Int)), (11, .pointer (some ⟨10, 0, none⟩)), (12, .int .i64 0)] [(0, .cells [.slice (some ⟨1, 0, none⟩) l.length c2] 55 true), (1, .cells (rws rc l) 67 false), (2, .cells (rws ic L ++ spL) 3 true), (6, .cells (rws rc l1 ++ sp3) 67 true), (10, .cells [.slice (some ⟨6, 0, none⟩) l1.length c3] 55 true)] 11 (by decide) ⟨rfl, rfl, rfl, rfl, rfl, rfl, rfl, trivial⟩ ⟨sb rfl, sb rfl, sb rfl, sb rfl, sb rfl, trivial⟩ rfl (bdH_b (by decide) rfl (bdH_c (by decide) (rcs_plain l) (bdH_c (by decide) (plainL_append (ics_plain _) hpL) (bdH_c (by decide) (plainL_append (rcs_plain _) hp3) (bdH_b (by decide) rfl rfl))))) ?_
        refine vc_seq ?_
        refine vc_seq ?_
        refine vc_go (by kernel_rfl) fun K hK => hK _ _ _ ?_
        clear hK K
        refine vc_cond (t := false) (bb (by simp)) (fun h => by cases h) (fun _ => ?_)
        refine vc_skip ?_
        refine vc_seq ?_
        have hw : IntKind.i64.wrap ((A : Int) + (B : Int)) = ((A + B : Nat) : Int) := by rw [wrapI (by omega) (by omega)]; omega
        rcases run_cases2 (nil := false) (l := l) (l1 := l1) (L := L) (c := c2) (mc := cL) hAB hl hL (fun h => by cases h) hq h1 hl1e with ⟨e, he, h70a, h70b⟩ | ⟨l2, hl2, h70a, h70b⟩
        · skip
          refine vc_reg (by kernel_rfl) fun K hK => ?_
          refine run_n (z := false) 3 (fun K' hK' => hK' _ _ _ ?_) (by decide)
          clear hK' K'
          refine run_fc (fun k => if k = 0 then (6, 0) else (2, 0)) (h70a c3) (hasF ⟨sf_winp (rcs_plain _) rfl get_zero_app, sf_winp (ics_plain L) rfl get_zero_app, trivial⟩ rfl) rfl rfl rfl rfl ⟨_, _, rfl, rfl⟩ ?_
          rintro _ _ ⟨rfl, rfl⟩
          refine run_end (z := false) fun K' hK' => hK' _ _ _ (hK _ _ _ ?_)
          clear hK' K' hK K
          refine vc_seq ?_
          refine vc_reg (by kernel_rfl) fun K hK => ?_
          refine run_n (z := false) 5 (fun K' hK' => hK' _ _ _ ?_) (by decide)
          clear hK' K'
          refine run_fc (fun k => if k = 0 then (1, 0) else (2, 0)) h70b (hasF ⟨sf_winp (rcs_plain _) rfl get_zero, sf_winp (ics_plain L) rfl get_zero_app, trivial⟩ rfl) rfl rfl (congrArg (fun x => [qv 1 l.length c2, .slice (some ⟨2, 0, none⟩) L.length cL, .int .i64 x]) hw) rfl ⟨_, _, rfl, rfl⟩ ?_
          rintro _ _ ⟨rfl, rfl⟩
          refine run_end (z := false) fun K' hK' => hK' _ _ _ (hK _ _ _ ?_)
          clear hK' K' hK K
          refine vc_seq ?_
          refine vc_seq ?_
          refine vc_reg (by kernel_rfl) fun K hK => ?_
          refine run_n (z := false) 4 (fun K' hK' => hK' _ _ _ ?_) (by decide)
          clear hK' K'
          refine vgo_known 83 (b := false) (bb (by simp)) ?_
          refine run_n (z := false) 3 (fun K' hK' => hK' _ _ _ ?_) (by decide)
          clear hK' K'
          refine vgo_known 86 (b := false) (bb (by simpa using he)) ?_
          refine run_end (z := false) fun K' hK' => hK' _ _ _ (hK _ _ _ ?_)
          clear hK' K' hK K
          refine vc_cond (t := false) rfl (fun h => by cases h) (fun _ => ?_)
          refine vc_skip ?_
          refine vc_seq ?_
          refine vc_seq ?_
          refine vc_go (by kernel_rfl) fun K hK => hK _ _ _ ?_
          clear hK K
          refine vc_block ?_
          refine vc_loopF (fun n s => ∃ (j : Nat), n = l1.length - j ∧ j ≤ l1.length ∧ s = can [(6, .bool false), (7, .pointer (some ⟨0, 0, none⟩)), (8, .slice (some ⟨2, 0, none⟩) L.length cL), (9, .int .i64 ((A : Nat) : Int)), (94, .slice (some ⟨3, 0, none⟩) l1.length c3), (95, .int .i64 (l1.length : Int)), (96, .int .i64 ((j : Nat) : Int))] [(0, .cells [.slice (some ⟨1, 0, none⟩) l.length c2] 55 true), (1, .cells (rws rc l) 67 false), (2, .cells (rws ic L ++ spL) 3 true), (3, .cells (rws rc l1 ++ sp3) 67 true)] 4) l1.length ?_ ?_
          · exact ⟨_, fg_ren (fun k => if k = 3 then 6 else k) [(6, .bool false), (7, .pointer (some ⟨0, 0, none⟩)), (8, .slice (some ⟨2, 0, none⟩) L.length cL), (9, .int .i64 ((A : Nat) : Int)), (94, .slice (some ⟨3, 0, none⟩) l1.length c3), (95, .int .i64 (l1.length : Int)), (96, .int .i64 ((0 : Nat) : Int))] [(0, .cells [.slice (some ⟨1, 0, none⟩) l.length c2] 55 true), (1, .cells (rws rc l) 67 false), (2, .cells (rws ic L ++ spL) 3 true), (3, .cells (rws rc l1 ++ sp3) 67 true)] 4 (by decide) (fun m hm => absurd hm (Nat.not_lt_zero m)) ⟨rfl, rfl, rfl, rfl, rfl, rfl, rfl, trivial⟩ ⟨sf_own rfl rfl, sf_winp (rcs_plain l) rfl get_zero, sf_ownp (plainL_append (ics_plain _) hpL) rfl rfl, sf_ownp (plainL_append (rcs_plain _) hp3) rfl rfl, trivial⟩ rfl (bdH_b (by decide) rfl (bdH_c (by decide) (rcs_plain l) (bdH_c (by decide) (plainL_append (ics_plain _) hpL) (bdH_c (by decide) (plainL_append (rcs_plain _) hp3) rfl)))) rfl, 0, rfl, Nat.zero_le _, rfl⟩
          · rintro n s ⟨j, hn, hj, rfl⟩
            refine vc_seq ?_
            refine vc_go (by kernel_rfl) fun K hK => hK _ _ _ ?_
            clear hK K
            refine vc_seq ?_
            refine vc_cond rfl (fun c0 => ?_) (fun c0 => ?_)
            · -- cond 18 t97 true
              refine vc_skip ?_
              refine vc_seq ?_
              refine vc_block ?_
              refine vc_seq ?_
              have hlt := len_le c0
              obtain ⟨r, hr⟩ : ∃ r, l1[j]? = some r := ⟨l1[j], List.getElem?_eq_getElem hlt⟩
              obtain ⟨was, hg, _, hid, hokw, hrun⟩ := (run_one hq (by omega) h1).2 j r (by rw [← hl1e]; exact hr)
              have h43 := p43 l c2 r.id (by omega)
              rw [hg] at h43
              have hrt : rt was.n was.w = true := okR_rt hokw
              refine vc_reg (by kernel_rfl) fun K hK => ?_
              refine run_op (vex_ixs (j := j) rfl rfl rfl hlt rfl rfl) rfl ?_
              refine run_rd (vex_ldr rc_len (j := 0) (i := j) (d := rc r) rfl (Nat.zero_add _) rfl (rfl) rfl hr (by decide) rfl) rfl ?_
              refine run_end (z := false) fun K' hK' => hK' _ _ _ (hK _ _ _ ?_)
              clear hK' K' hK K
              refine vc_seq ?_
              refine vc_reg (by kernel_rfl) fun K hK => ?_
              refine run_n (z := false) 3 (fun K' hK' => hK' _ _ _ ?_) (by decide)
              clear hK' K'
              refine run_ro (fun _ => (1, 0)) (h43) ?_ rfl rfl rfl rfl ?_
              · intro x hx
                simp only [List.mem_singleton] at hx
                subst hx
                exact ⟨_, _, _, rfl, fun i v hv => by rw [Nat.zero_add]; exact hv⟩
              refine run_end (z := false) fun K' hK' => hK' _ _ _ (hK _ _ _ ?_)
              clear hK' K' hK K
              refine vc_seq ?_
              refine vc_seq ?_
              refine vc_go (by kernel_rfl) fun K hK => hK _ _ _ ?_
              clear hK K
              refine vc_cond (t := false) rfl (fun h => by cases h) (fun _ => ?_)
              refine vc_skip ?_
              refine vc_seq ?_
              refine vc_go (by kernel_rfl) fun K hK => hK _ _ _ ?_
              clear hK K
              refine vc_seq ?_
              refine vc_seq ?_
              refine vc_go (by kernel_rfl) fun K hK => hK _ _ _ ?_
              clear hK K
              refine vc_block ?_
              refine vc_loopF (fun n s => ∃ (i : Nat) (runs : Bool), n = L.length - i ∧ i ≤ L.length ∧ runs = (L.take i).any (fun t => t == r.id) ∧ s = can [(6, .bool false), (7, .pointer (some ⟨0, 0, none⟩)), (8, .slice (some ⟨2, 0, none⟩) L.length cL), (9, .int .i64 ((A : Nat) : Int)), (94, .slice (some ⟨3, 0, none⟩) l1.length c3), (95, .int .i64 (l1.length : Int)), (96, .int .i64 ((j : Nat) : Int)), (17, .pointer (some ⟨4, 0, none⟩)), (18, .pointer (some ⟨5, 0, none⟩)), (20, .bool runs), (109, .slice (some ⟨2, 0, none⟩) L.length cL), (110, .int .i64 (L.length : Int)), (111, .int .i64 ((i : Nat) : Int))] [(0, .cells [.slice (some ⟨1, 0, none⟩) l.length c2] 55 true), (1, .cells (rws rc l) 67 false), (2, .cells (rws ic L ++ spL) 3 true), (3, .cells (rws rc l1 ++ sp3) 67 true), (4, .cells (rc r) 67 true), (5, .cells (rc was) 67 true)] 6) L.length ?_ ?_
              · exact ⟨_, fg_ren (fun k => if k = 4 then 6 else if k = 5 then 14 else k) [(6, .bool false), (7, .pointer (some ⟨0, 0, none⟩)), (8, .slice (some ⟨2, 0, none⟩) L.length cL), (9, .int .i64 ((A : Nat) : Int)), (94, .slice (some ⟨3, 0, none⟩) l1.length c3), (95, .int .i64 (l1.length : Int)), (96, .int .i64 ((j : Nat) : Int)), (17, .pointer (some ⟨4, 0, none⟩)), (18, .pointer (some ⟨5, 0, none⟩)), (20, .bool false), (109, .slice (some ⟨2, 0, none⟩) L.length cL), (110, .int .i64 (L.length : Int)), (111, .int .i64 ((0 : Nat) : Int))] [(0, .cells [.slice (some ⟨1, 0, none⟩) l.length c2] 55 true), (1, .cells (rws rc l) 67 false), (2, .cells (rws ic L ++ spL) 3 true), (3, .cells (rws rc l1 ++ sp3) 67 true), (4, .cells (rc r) 67 true), (5, .cells (rc was) 67 true)] 6 (by decide) (fun m hm => absurd hm (Nat.not_lt_zero m)) ⟨rfl, rfl, rfl, rfl, rfl, rfl, rfl, rfl, rfl, rfl, rfl, rfl, rfl, trivial⟩ ⟨sf_own rfl rfl, sf_winp (rcs_plain l) rfl get_zero, sf_ownp (plainL_append (ics_plain _) hpL) rfl rfl, sf_ownp (plainL_append (rcs_plain _) hp3) rfl rfl, sf_ownp (rc_plain r) rfl rfl, sf_ownp (rc_plain was) rfl rfl, trivial⟩ rfl (bdH_b (by decide) rfl (bdH_c (by decide) (rcs_plain l) (bdH_c (by decide) (plainL_append (ics_plain _) hpL) (bdH_c (by decide) (plainL_append (rcs_plain _) hp3) (bdH_c (by decide) (rc_plain r) (bdH_c (by decide) (rc_plain was) rfl)))))) rfl, 0, false, rfl, Nat.zero_le _, rfl, rfl⟩
              · rintro n s ⟨i, runs, hn2, hi, hruns, rfl⟩
                refine vc_seq ?_
                refine vc_go (by kernel_rfl) fun K hK => hK _ _ _ ?_
                clear hK K
                refine vc_seq ?_
                refine vc_cond rfl (fun c1 => ?_) (fun c1 => ?_)
                · -- cond 20 t112 true
                  refine vc_skip ?_
                  refine vc_seq ?_
                  refine vc_block ?_
                  refine vc_seq ?_
                  have hlt2 := len_le c1
                  obtain ⟨x, hx⟩ : ∃ x, L[i]? = some x := ⟨L[i], List.getElem?_eq_getElem hlt2⟩
                  refine vc_reg (by kernel_rfl) fun K hK => ?_
                  refine run_op (vex_ixs (j := i) rfl rfl rfl hlt2 rfl rfl) rfl ?_
                  refine run_rd (vex_ldc ic_len (j := 0) (i := i) rfl (Nat.zero_add _) rfl rfl rfl hx (by decide) rfl) rfl ?_
                  refine run_end (z := false) fun K' hK' => hK' _ _ _ (hK _ _ _ ?_)
                  clear hK' K' hK K
                  cases runs
                  · skip
                    refine vc_reg (by kernel_rfl) fun K hK => ?_
                    refine run_n (z := false) 2 (fun K' hK' => hK' _ _ _ ?_) (by decide)
                    clear hK' K'
                    refine vgo_known 116 (b := false) (rfl) ?_
                    refine run_end (z := false) fun K' hK' => hK' _ _ _ (hK _ _ _ ?_)
                    clear hK' K' hK K
                    refine vc_go (by kernel_rfl) fun K hK => hK _ _ _ ?_
                    clear hK K
                    exact ⟨_, fg_focus [(6, .bool false), (7, .pointer (some ⟨0, 0, none⟩)), (8, .slice (some ⟨2, 0, none⟩) L.length cL), (9, .int .i64 ((A : Nat) : Int)), (94, .slice (some ⟨3, 0, none⟩) l1.length c3), (95, .int .i64 (l1.length : Int)), (96, .int .i64 ((j : Nat) : Int)), (17, .pointer (some ⟨4, 0, none⟩)), (18, .pointer (some ⟨5, 0, none⟩)), (20, .bool (x == r.id)), (109, .slice (some ⟨2, 0, none⟩) L.length cL), (110, .int .i64 (L.length : Int)), (111, .int .i64 ((i + 1 : Nat) : Int))] [(0, .cells [.slice (some ⟨1, 0, none⟩) l.length c2] 55 true), (1, .cells (rws rc l) 67 false), (2, .cells (rws ic L ++ spL) 3 true), (3, .cells (rws rc l1 ++ sp3) 67 true), (4, .cells (rc r) 67 true), (5, .cells (rc was) 67 true)] 6 (by decide) ⟨rfl, rfl, rfl, rfl, rfl, rfl, rfl, rfl, rfl, rfl, rfl, rfl, ii (wrapI (by omega) (by omega)), trivial⟩ ⟨sb rfl, sb rfl, sb rfl, sb rfl, sb rfl, sb rfl, trivial⟩ rfl (bdH_b (by decide) rfl (bdH_c (by decide) (rcs_plain l) (bdH_c (by decide) (plainL_append (ics_plain _) hpL) (bdH_c (by decide) (plainL_append (rcs_plain _) hp3) (bdH_c (by decide) (rc_plain r) (bdH_c (by decide) (rc_plain was) rfl)))))), L.length - (i + 1), by omega, i + 1, (x == r.id), rfl, hlt2, by rw [List.take_add_one, hx]; simp [List.any_append, ← hruns], rfl⟩
                  · skip
                    refine vc_reg (by kernel_rfl) fun K hK => ?_
                    refine run_n (z := false) 2 (fun K' hK' => hK' _ _ _ ?_) (by decide)
                    clear hK' K'
                    refine vgo_known 116 (b := true) (rfl) ?_
                    refine run_end (z := false) fun K' hK' => hK' _ _ _ (hK _ _ _ ?_)
                    clear hK' K' hK K
                    refine vc_go (by kernel_rfl) fun K hK => hK _ _ _ ?_
                    clear hK K
                    exact ⟨_, fg_focus [(6, .bool false), (7, .pointer (some ⟨0, 0, none⟩)), (8, .slice (some ⟨2, 0, none⟩) L.length cL), (9, .int .i64 ((A : Nat) : Int)), (94, .slice (some ⟨3, 0, none⟩) l1.length c3), (95, .int .i64 (l1.length : Int)), (96, .int .i64 ((j : Nat) : Int)), (17, .pointer (some ⟨4, 0, none⟩)), (18, .pointer (some ⟨5, 0, none⟩)), (20, .bool true), (109, .slice (some ⟨2, 0, none⟩) L.length cL), (110, .int .i64 (L.length : Int)), (111, .int .i64 ((i + 1 : Nat) : Int))] [(0, .cells [.slice (some ⟨1, 0, none⟩) l.length c2] 55 true), (1, .cells (rws rc l) 67 false), (2, .cells (rws ic L ++ spL) 3 true), (3, .cells (rws rc l1 ++ sp3) 67 true), (4, .cells (rc r) 67 true), (5, .cells (rc was) 67 true)] 6 (by decide) ⟨rfl, rfl, rfl, rfl, rfl, rfl, rfl, rfl, rfl, rfl, rfl, rfl, ii (wrapI (by omega) (by omega)), trivial⟩ ⟨sb rfl, sb rfl, sb rfl, sb rfl, sb rfl, sb rfl, trivial⟩ rfl (bdH_b (by decide) rfl (bdH_c (by decide) (rcs_plain l) (bdH_c (by decide) (plainL_append (ics_plain _) hpL) (bdH_c (by decide) (plainL_append (rcs_plain _) hp3) (bdH_c (by decide) (rc_plain r) (bdH_c (by decide) (rc_plain was) rfl)))))), L.length - (i + 1), by omega, i + 1, true, rfl, hlt2, by rw [List.take_add_one, hx]; simp [List.any_append, ← hruns], rfl⟩
                · -- cond 20 t112 false
                  refine vc_exit ?_
                  refine vc_seq ?_
                  have hge := len_ge c1
                  obtain rfl : i = L.length := by omega
                  rw [List.take_length] at hruns
                  by_cases hmem : r.id ∈ L
                  · have hr1 : runs = true := by rw [hruns]; exact List.any_eq_true.2 ⟨r.id, hmem, by simp⟩
                    clear hruns
                    subst hr1
                    rw [if_pos hmem] at hrun
                    obtain ⟨hs, hrun⟩ := hrun
                    have h63 := p63y hrt (kR_lt A was) hs
                    refine vc_reg (by kernel_rfl) fun K hK => ?_
                    refine run_n (z := false) 8 (fun K' hK' => hK' _ _ _ ?_) (by decide)
                    clear hK' K'
                    refine run_call h63 rfl (congrArg (fun x => [fr was.n was.w, .int .u64 x]) (kR_raw (by omega) was)) rfl rfl ?_
                    refine run_end (z := false) fun K' hK' => hK' _ _ _ (hK _ _ _ ?_)
                    clear hK' K' hK K
                    refine vc_seq ?_
                    refine vc_reg (by kernel_rfl) fun K hK => ?_
                    refine run_n (z := false) 2 (fun K' hK' => hK' _ _ _ ?_) (by decide)
                    clear hK' K'
                    refine vgo_known 136 (b := true) (rfl) ?_
                    refine run_n (z := false) 3 (fun K' hK' => hK' _ _ _ ?_) (by decide)
                    clear hK' K'
                    refine vgo_known 139 (b := false) (bb (by simp)) ?_
                    refine run_n (z := false) 7 (fun K' hK' => hK' _ _ _ ?_) (by decide)
                    clear hK' K'
                    refine vgo_known 146 (b := false) (bb (by rw [hrun]; exact fr_neq _ _)) ?_
                    refine run_n (z := false) 3 (fun K' hK' => hK' _ _ _ ?_) (by decide)
                    clear hK' K'
                    refine vgo_known 149 (b := false) (rfl) ?_
                    refine run_end (z := false) fun K' hK' => hK' _ _ _ (hK _ _ _ ?_)
                    clear hK' K' hK K
                    refine vc_cond (t := false) rfl (fun h => by cases h) (fun _ => ?_)
                    refine vc_skip ?_
                    refine vc_go (by kernel_rfl) fun K hK => hK _ _ _ ?_
                    clear hK K
                    exact ⟨_, fg_focus [(6, .bool false), (7, .pointer (some ⟨0, 0, none⟩)), (8, .slice (some ⟨2, 0, none⟩) L.length cL), (9, .int .i64 ((A : Nat) : Int)), (94, .slice (some ⟨3, 0, none⟩) l1.length c3), (95, .int .i64 (l1.length : Int)), (96, .int .i64 ((j + 1 : Nat) : Int))] [(0, .cells [.slice (some ⟨1, 0, none⟩) l.length c2] 55 true), (1, .cells (rws rc l) 67 false), (2, .cells (rws ic L ++ spL) 3 true), (3, .cells (rws rc l1 ++ sp3) 67 true)] 4 (by decide) ⟨rfl, rfl, rfl, rfl, rfl, rfl, ii (wrapI (by omega) (by omega)), trivial⟩ ⟨sb rfl, sb rfl, sb rfl, sb rfl, trivial⟩ rfl (bdH_b (by decide) rfl (bdH_c (by decide) (rcs_plain l) (bdH_c (by decide) (plainL_append (ics_plain _) hpL) (bdH_c (by decide) (plainL_append (rcs_plain _) hp3) rfl)))), l1.length - (j + 1), by omega, j + 1, rfl, hlt, rfl⟩
                  · have hr1 : runs = false := by
                      rw [hruns]
                      rw [List.any_eq_false]
                      intro t ht e
                      exact hmem (by rw [← beq_iff_eq.1 e]; exact ht)
                    clear hruns
                    subst hr1
                    rw [if_neg hmem] at hrun
                    obtain ⟨n9, w9, e9, h63⟩ : ∃ (n9 w9 : Nat) (e9 : Int), Pure 63 [fr was.n was.w, u64 (kR A was)] (.tuple #[fr n9 w9, .int .i64 e9]) := by
                      by_cases hs : was.n + kR A was < 2 ^ 100
                      · exact ⟨_, _, _, p63y hrt (kR_lt A was) hs⟩
                      · exact ⟨_, _, _, p63r hrt (kR_lt A was) hs⟩
                    refine vc_reg (by kernel_rfl) fun K hK => ?_
                    refine run_n (z := false) 8 (fun K' hK' => hK' _ _ _ ?_) (by decide)
                    clear hK' K'
                    refine run_call h63 rfl (congrArg (fun x => [fr was.n was.w, .int .u64 x]) (kR_raw (by omega) was)) rfl rfl ?_
                    refine run_end (z := false) fun K' hK' => hK' _ _ _ (hK _ _ _ ?_)
                    clear hK' K' hK K
                    refine vc_seq ?_
                    refine vc_reg (by kernel_rfl) fun K hK => ?_
                    refine run_n (z := false) 2 (fun K' hK' => hK' _ _ _ ?_) (by decide)
                    clear hK' K'
                    refine vgo_known 136 (b := false) (rfl) ?_
                    refine run_n (z := false) 10 (fun K' hK' => hK' _ _ _ ?_) (by decide)
                    clear hK' K'
                    refine vgo_known 146 (b := false) (rfl) ?_
                    refine run_n (z := false) 3 (fun K' hK' => hK' _ _ _ ?_) (by decide)
                    clear hK' K'
                    refine vgo_known 149 (b := true) (rfl) ?_
                    refine run_end (z := false) fun K' hK' => hK' _ _ _ (hK _ _ _ ?_)
                    clear hK' K' hK K
                    refine vc_cond (t := false) (bb (by rw [rn_beq]; first | (rw [decide_eq_true (show r = (some was).getD z0 from hrun)]; rfl) | (rw [decide_eq_true hrun]; rfl))) (fun h => by cases h) (fun _ => ?_)
                    refine vc_skip ?_
                    refine vc_go (by kernel_rfl) fun K hK => hK _ _ _ ?_
                    clear hK K
                    exact ⟨_, fg_focus [(6, .bool false), (7, .pointer (some ⟨0, 0, none⟩)), (8, .slice (some ⟨2, 0, none⟩) L.length cL), (9, .int .i64 ((A : Nat) : Int)), (94, .slice (some ⟨3, 0, none⟩) l1.length c3), (95, .int .i64 (l1.length : Int)), (96, .int .i64 ((j + 1 : Nat) : Int))] [(0, .cells [.slice (some ⟨1, 0, none⟩) l.length c2] 55 true), (1, .cells (rws rc l) 67 false), (2, .cells (rws ic L ++ spL) 3 true), (3, .cells (rws rc l1 ++ sp3) 67 true)] 4 (by decide) ⟨rfl, rfl, rfl, rfl, rfl, rfl, ii (wrapI (by omega) (by omega)), trivial⟩ ⟨sb rfl, sb rfl, sb rfl, sb rfl, trivial⟩ rfl (bdH_b (by decide) rfl (bdH_c (by decide) (rcs_plain l) (bdH_c (by decide) (plainL_append (ics_plain _) hpL) (bdH_c (by decide) (plainL_append (rcs_plain _) hp3) rfl)))), l1.length - (j + 1), by omega, j + 1, rfl, hlt, rfl⟩
            · -- cond 18 t97 false
              refine vc_exit ?_
              refine vc_seq ?_
              refine vc_go (by kernel_rfl) fun K hK => hK _ _ _ ?_
              clear hK K
              exact vc_ret ⟨.inr rfl, rfl⟩
        · skip
          refine vc_reg (by kernel_rfl) fun K hK => ?_
          refine run_n (z := false) 3 (fun K' hK' => hK' _ _ _ ?_) (by decide)
          clear hK' K'
          refine run_fc (fun k => if k = 0 then (6, 0) else (2, 0)) (h70a c3) (hasF ⟨sf_winp (rcs_plain _) rfl get_zero_app, sf_winp (ics_plain L) rfl get_zero_app, trivial⟩ rfl) rfl rfl rfl rfl ⟨_, _, 0, [], rfl, rfl, rfl⟩ ?_
          rintro _ _ ⟨c4, sp4, hp4, rfl, rfl⟩
          rw [renU_c (renB_p (plainL_append (rcs_plain _) hp4)) renU_nil]
          refine run_end (z := false) fun K' hK' => hK' _ _ _ (hK _ _ _ ?_)
          clear hK' K' hK K
          refine vc_seq ?_
          refine vc_reg (by kernel_rfl) fun K hK => ?_
          refine run_n (z := false) 5 (fun K' hK' => hK' _ _ _ ?_) (by decide)
          clear hK' K'
          refine run_fc (fun k => if k = 0 then (1, 0) else (2, 0)) h70b (hasF ⟨sf_winp (rcs_plain _) rfl get_zero, sf_winp (ics_plain L) rfl get_zero_app, trivial⟩ rfl) rfl rfl (congrArg (fun x => [qv 1 l.length c2, .slice (some ⟨2, 0, none⟩) L.length cL, .int .i64 x]) hw) rfl ⟨_, _, 0, [], rfl, rfl, rfl⟩ ?_
          rintro _ _ ⟨c5, sp5, hp5, rfl, rfl⟩
          rw [renU_c (renB_p (plainL_append (rcs_plain _) hp5)) renU_nil]
          refine run_end (z := false) fun K' hK' => hK' _ _ _ (hK _ _ _ ?_)
          clear hK' K' hK K
          refine vc_seq ?_
          refine vc_seq ?_
          refine vc_reg (by kernel_rfl) fun K hK => ?_
          refine run_n (z := false) 4 (fun K' hK' => hK' _ _ _ ?_) (by decide)
          clear hK' K'
          refine vgo_known 83 (b := false) (bb (by simp)) ?_
          refine run_n (z := false) 3 (fun K' hK' => hK' _ _ _ ?_) (by decide)
          clear hK' K'
          refine vgo_known 86 (b := true) (rfl) ?_
          refine run_n (z := false) 2 (fun K' hK' => hK' _ _ _ ?_) (by decide)
          clear hK' K'
          refine run_ro (fun k => if k = 0 then (14, 0) else (24, 0)) (same_ro l2 c4 c5 (by omega)) ?_ rfl rfl rfl rfl ?_
          · intro x hx
            simp only [List.mem_cons, List.mem_singleton, List.not_mem_nil, or_false] at hx
            rcases hx with rfl | rfl
            · exact ⟨_, _, _, rfl, get_zero_app⟩
            · exact ⟨_, _, _, rfl, get_zero_app⟩
          refine run_end (z := false) fun K' hK' => hK' _ _ _ (hK _ _ _ ?_)
          clear hK' K' hK K
          refine vc_cond (t := false) rfl (fun h => by cases h) (fun _ => ?_)
          refine vc_skip ?_
          refine vc_seq ?_
          refine vc_seq ?_
          refine vc_go (by kernel_rfl) fun K hK => hK _ _ _ ?_
          clear hK K
          refine vc_block ?_
          refine vc_loopF (fun n s => ∃ (j : Nat), n = l1.length - j ∧ j ≤ l1.length ∧ s = can [(6, .bool false), (7, .pointer (some ⟨0, 0, none⟩)), (8, .slice (some ⟨2, 0, none⟩) L.length cL), (9, .int .i64 ((A : Nat) : Int)), (94, .slice (some ⟨3, 0, none⟩) l1.length c3), (95, .int .i64 (l1.length : Int)), (96, .int .i64 ((j : Nat) : Int))] [(0, .cells [.slice (some ⟨1, 0, none⟩) l.length c2] 55 true), (1, .cells (rws rc l) 67 false), (2, .cells (rws ic L ++ spL) 3 true), (3, .cells (rws rc l1 ++ sp3) 67 true)] 4) l1.length ?_ ?_
          · exact ⟨_, fg_ren (fun k => if k = 3 then 6 else k) [(6, .bool false), (7, .pointer (some ⟨0, 0, none⟩)), (8, .slice (some ⟨2, 0, none⟩) L.length cL), (9, .int .i64 ((A : Nat) : Int)), (94, .slice (some ⟨3, 0, none⟩) l1.length c3), (95, .int .i64 (l1.length : Int)), (96, .int .i64 ((0 : Nat) : Int))] [(0, .cells [.slice (some ⟨1, 0, none⟩) l.length c2] 55 true), (1, .cells (rws rc l) 67 false), (2, .cells (rws ic L ++ spL) 3 true), (3, .cells (rws rc l1 ++ sp3) 67 true)] 4 (by decide) (fun m hm => absurd hm (Nat.not_lt_zero m)) ⟨rfl, rfl, rfl, rfl, rfl, rfl, rfl, trivial⟩ ⟨sf_own rfl rfl, sf_winp (rcs_plain l) rfl get_zero, sf_ownp (plainL_append (ics_plain _) hpL) rfl rfl, sf_ownp (plainL_append (rcs_plain _) hp3) rfl rfl, trivial⟩ rfl (bdH_b (by decide) rfl (bdH_c (by decide) (rcs_plain l) (bdH_c (by decide) (plainL_append (ics_plain _) hpL) (bdH_c (by decide) (plainL_append (rcs_plain _) hp3) rfl)))) rfl, 0, rfl, Nat.zero_le _, rfl⟩
          · rintro n s ⟨j, hn, hj, rfl⟩
            refine vc_seq ?_
            refine vc_go (by kernel_rfl) fun K hK => hK _ _ _ ?_
            clear hK K
            refine vc_seq ?_
            refine vc_cond rfl (fun c0 => ?_) (fun c0 => ?_)
            · -- cond 24 t97 true
              refine vc_skip ?_
              refine vc_seq ?_
              refine vc_block ?_
              refine vc_seq ?_
              have hlt := len_le c0
              obtain ⟨r, hr⟩ : ∃ r, l1[j]? = some r := ⟨l1[j], List.getElem?_eq_getElem hlt⟩
              obtain ⟨was, hg, _, hid, hokw, hrun⟩ := (run_one hq (by omega) h1).2 j r (by rw [← hl1e]; exact hr)
              have h43 := p43 l c2 r.id (by omega)
              rw [hg] at h43
              have hrt : rt was.n was.w = true := okR_rt hokw
              refine vc_reg (by kernel_rfl) fun K hK => ?_
              refine run_op (vex_ixs (j := j) rfl rfl rfl hlt rfl rfl) rfl ?_
              refine run_rd (vex_ldr rc_len (j := 0) (i := j) (d := rc r) rfl (Nat.zero_add _) rfl (rfl) rfl hr (by decide) rfl) rfl ?_
              refine run_end (z := false) fun K' hK' => hK' _ _ _ (hK _ _ _ ?_)
              clear hK' K' hK K
              refine vc_seq ?_
              refine vc_reg (by kernel_rfl) fun K hK => ?_
              refine run_n (z := false) 3 (fun K' hK' => hK' _ _ _ ?_) (by decide)
              clear hK' K'
              refine run_ro (fun _ => (1, 0)) (h43) ?_ rfl rfl rfl rfl ?_
              · intro x hx
                simp only [List.mem_singleton] at hx
                subst hx
                exact ⟨_, _, _, rfl, fun i v hv => by rw [Nat.zero_add]; exact hv⟩
              refine run_end (z := false) fun K' hK' => hK' _ _ _ (hK _ _ _ ?_)
              clear hK' K' hK K
              refine vc_seq ?_
              refine vc_seq ?_
              refine vc_go (by kernel_rfl) fun K hK => hK _ _ _ ?_
              clear hK K
              refine vc_cond (t := false) rfl (fun h => by cases h) (fun _ => ?_)
              refine vc_skip ?_
              refine vc_seq ?_
              refine vc_go (by kernel_rfl) fun K hK => hK _ _ _ ?_
              clear hK K
              refine vc_seq ?_
              refine vc_seq ?_
              refine vc_go (by kernel_rfl) fun K hK => hK _ _ _ ?_
              clear hK K
              refine vc_block ?_
              refine vc_loopF (fun n s => ∃ (i : Nat) (runs : Bool), n = L.length - i ∧ i ≤ L.length ∧ runs = (L.take i).any (fun t => t == r.id) ∧ s = can [(6, .bool false), (7, .pointer (some ⟨0, 0, none⟩)), (8, .slice (some ⟨2, 0, none⟩) L.length cL), (9, .int .i64 ((A : Nat) : Int)), (94, .slice (some ⟨3, 0, none⟩) l1.length c3), (95, .int .i64 (l1.length : Int)), (96, .int .i64 ((j : Nat) : Int)), (17, .pointer (some ⟨4, 0, none⟩)), (18, .pointer (some ⟨5, 0, none⟩)), (20, .bool runs), (109, .slice (some ⟨2, 0, none⟩) L.length cL), (110, .int .i64 (L.length : Int)), (111, .int .i64 ((i : Nat) : Int))] [(0, .cells [.slice (some ⟨1, 0, none⟩) l.length c2] 55 true), (1, .cells (rws rc l) 67 false), (2, .cells (rws ic L ++ spL) 3 true), (3, .cells (rws rc l1 ++ sp3) 67 true), (4, .cells (rc r) 67 true), (5, .cells (rc was) 67 true)] 6) L.length ?_ ?_
              · exact ⟨_, fg_ren (fun k => if k = 4 then 6 else if k = 5 then 14 else k) [(6, .bool false), (7, .pointer (some ⟨0, 0, none⟩)), (8, .slice (some ⟨2, 0, none⟩) L.length cL), (9, .int .i64 ((A : Nat) : Int)), (94, .slice (some ⟨3, 0, none⟩) l1.length c3), (95, .int .i64 (l1.length : Int)), (96, .int .i64 ((j : Nat) : Int)), (17, .pointer (some ⟨4, 0, none⟩)), (18, .pointer (some ⟨5, 0, none⟩)), (20, .bool false), (109, .slice (some ⟨2, 0, none⟩) L.length cL), (110, .int .i64 (L.length : Int)), (111, .int .i64 ((0 : Nat) : Int))] [(0, .cells [.slice (some ⟨1, 0, none⟩) l.length c2] 55 true), (1, .cells (rws rc l) 67 false), (2, .cells (rws ic L ++ spL) 3 true), (3, .cells (rws rc l1 ++ sp3) 67 true), (4, .cells (rc r) 67 true), (5, .cells (rc was) 67 true)] 6 (by decide) (fun m hm => absurd hm (Nat.not_lt_zero m)) ⟨rfl, rfl, rfl, rfl, rfl, rfl, rfl, rfl, rfl, rfl, rfl, rfl, rfl, trivial⟩ ⟨sf_own rfl rfl, sf_winp (rcs_plain l) rfl get_zero, sf_ownp (plainL_append (ics_plain _) hpL) rfl rfl, sf_ownp (plainL_append (rcs_plain _) hp3) rfl rfl, sf_ownp (rc_plain r) rfl rfl, sf_ownp (rc_plain was) rfl rfl, trivial⟩ rfl (bdH_b (by decide) rfl (bdH_c (by decide) (rcs_plain l) (bdH_c (by decide) (plainL_append (ics_plain _) hpL) (bdH_c (by decide) (plainL_append (rcs_plain _) hp3) (bdH_c (by decide) (rc_plain r) (bdH_c (by decide) (rc_plain was) rfl)))))) rfl, 0, false, rfl, Nat.zero_le _, rfl, rfl⟩
              · rintro n s ⟨i, runs, hn2, hi, hruns, rfl⟩
                refine vc_seq ?_
                refine vc_go (by kernel_rfl) fun K hK => hK _ _ _ ?_
                clear hK K
                refine vc_seq ?_
                refine vc_cond rfl (fun c1 => ?_) (fun c1 => ?_)
                · -- cond 26 t112 true
                  refine vc_skip ?_
                  refine vc_seq ?_
                  refine vc_block ?_
                  refine vc_seq ?_
                  have hlt2 := len_le c1
                  obtain ⟨x, hx⟩ : ∃ x, L[i]? = some x := ⟨L[i], List.getElem?_eq_getElem hlt2⟩
                  refine vc_reg (by kernel_rfl) fun K hK => ?_
                  refine run_op (vex_ixs (j := i) rfl rfl rfl hlt2 rfl rfl) rfl ?_
                  refine run_rd (vex_ldc ic_len (j := 0) (i := i) rfl (Nat.zero_add _) rfl rfl rfl hx (by decide) rfl) rfl ?_
                  refine run_end (z := false) fun K' hK' => hK' _ _ _ (hK _ _ _ ?_)
                  clear hK' K' hK K
                  cases runs
                  · skip
                    refine vc_reg (by kernel_rfl) fun K hK => ?_
                    refine run_n (z := false) 2 (fun K' hK' => hK' _ _ _ ?_) (by decide)
                    clear hK' K'
                    refine vgo_known 116 (b := false) (rfl) ?_
                    refine run_end (z := false) fun K' hK' => hK' _ _ _ (hK _ _ _ ?_)
                    clear hK' K' hK K
                    refine vc_go (by kernel_rfl) fun K hK => hK _ _ _ ?_
                    clear hK K
                    exact ⟨_, fg_focus [(6, .bool false), (7, .pointer (some ⟨0, 0, none⟩)), (8, .slice (some ⟨2, 0, none⟩) L.length cL), (9, .int .i64 ((A : Nat) : Int)), (94, .slice (some ⟨3, 0, none⟩) l1.length c3), (95, .int .i64 (l1.length : Int)), (96, .int .i64 ((j : Nat) : Int)), (17, .pointer (some ⟨4, 0, none⟩)), (18, .pointer (some ⟨5, 0, none⟩)), (20, .bool (x == r.id)), (109, .slice (some ⟨2, 0, none⟩) L.length cL), (110, .int .i64 (L.length : Int)), (111, .int .i64 ((i + 1 : Nat) : Int))] [(0, .cells [.slice (some ⟨1, 0, none⟩) l.length c2] 55 true), (1, .cells (rws rc l) 67 false), (2, .cells (rws ic L ++ spL) 3 true), (3, .cells (rws rc l1 ++ sp3) 67 true), (4, .cells (rc r) 67 true), (5, .cells (rc was) 67 true)] 6 (by decide) ⟨rfl, rfl, rfl, rfl, rfl, rfl, rfl, rfl, rfl, rfl, rfl, rfl, ii (wrapI (by omega) (by omega)), trivial⟩ ⟨sb rfl, sb rfl, sb rfl, sb rfl, sb rfl, sb rfl, trivial⟩ rfl (bdH_b (by decide) rfl (bdH_c (by decide) (rcs_plain l) (bdH_c (by decide) (plainL_append (ics_plain _) hpL) (bdH_c (by decide) (plainL_append (rcs_plain _) hp3) (bdH_c (by decide) (rc_plain r) (bdH_c (by decide) (rc_plain was) rfl)))))), L.length - (i + 1), by omega, i + 1, (x == r.id), rfl, hlt2, by rw [List.take_add_one, hx]; simp [List.any_append, ← hruns], rfl⟩
                  · skip
                    refine vc_reg (by kernel_rfl) fun K hK => ?_
                    refine run_n (z := false) 2 (fun K' hK' => hK' _ _ _ ?_) (by decide)
                    clear hK' K'
                    refine vgo_known 116 (b := true) (rfl) ?_
                    refine run_end (z := false) fun K' hK' => hK' _ _ _ (hK _ _ _ ?_)
                    clear hK' K' hK K
                    refine vc_go (by kernel_rfl) fun K hK => hK _ _ _ ?_
                    clear hK K
                    exact ⟨_, fg_focus [(6, .bool false), (7, .pointer (some ⟨0, 0, none⟩)), (8, .slice (some ⟨2, 0, none⟩) L.length cL), (9, .int .i64 ((A : Nat) : Int)), (94, .slice (some ⟨3, 0, none⟩) l1.length c3), (95, .int .i64 (l1.length : Int)), (96, .int .i64 ((j : Nat) : Int)), (17, .pointer (some ⟨4, 0, none⟩)), (18, .pointer (some ⟨5, 0, none⟩)), (20, .bool true), (109, .slice (some ⟨2, 0, none⟩) L.length cL), (110, .int .i64 (L.length : Int)), (111, .int .i64 ((i + 1 : Nat) : Int))] [(0, .cells [.slice (some ⟨1, 0, none⟩) l.length c2] 55 true), (1, .cells (rws rc l) 67 false), (2, .cells (rws ic L ++ spL) 3 true), (3, .cells (rws rc l1 ++ sp3) 67 true), (4, .cells (rc r) 67 true), (5, .cells (rc was) 67 true)] 6 (by decide) ⟨rfl, rfl, rfl, rfl, rfl, rfl, rfl, rfl, rfl, rfl, rfl, rfl, ii (wrapI (by omega) (by omega)), trivial⟩ ⟨sb rfl, sb rfl, sb rfl, sb rfl, sb rfl, sb rfl, trivial⟩ rfl (bdH_b (by decide) rfl (bdH_c (by decide) (rcs_plain l) (bdH_c (by decide) (plainL_append (ics_plain _) hpL) (bdH_c (by decide) (plainL_append (rcs_plain _) hp3) (bdH_c (by decide) (rc_plain r) (bdH_c (by decide) (rc_plain was) rfl)))))), L.length - (i + 1), by omega, i + 1, true, rfl, hlt2, by rw [List.take_add_one, hx]; simp [List.any_append, ← hruns], rfl⟩
                · -- cond 26 t112 false
                  refine vc_exit ?_
                  refine vc_seq ?_
                  have hge := len_ge c1
                  obtain rfl : i = L.length := by omega
                  rw [List.take_length] at hruns
                  by_cases hmem : r.id ∈ L
                  · have hr1 : runs = true := by rw [hruns]; exact List.any_eq_true.2 ⟨r.id, hmem, by simp⟩
                    clear hruns
                    subst hr1
                    rw [if_pos hmem] at hrun
                    obtain ⟨hs, hrun⟩ := hrun
                    have h63 := p63y hrt (kR_lt A was) hs
                    refine vc_reg (by kernel_rfl) fun K hK => ?_
                    refine run_n (z := false) 8 (fun K' hK' => hK' _ _ _ ?_) (by decide)
                    clear hK' K'
                    refine run_call h63 rfl (congrArg (fun x => [fr was.n was.w, .int .u64 x]) (kR_raw (by omega) was)) rfl rfl ?_
                    refine run_end (z := false) fun K' hK' => hK' _ _ _ (hK _ _ _ ?_)
                    clear hK' K' hK K
                    refine vc_seq ?_
                    refine vc_reg (by kernel_rfl) fun K hK => ?_
                    refine run_n (z := false) 2 (fun K' hK' => hK' _ _ _ ?_) (by decide)
                    clear hK' K'
                    refine vgo_known 136 (b := true) (rfl) ?_
                    refine run_n (z := false) 3 (fun K' hK' => hK' _ _ _ ?_) (by decide)
                    clear hK' K'
                    refine vgo_known 139 (b := false) (bb (by simp)) ?_
                    refine run_n (z := false) 7 (fun K' hK' => hK' _ _ _ ?_) (by decide)
                    clear hK' K'
                    refine vgo_known 146 (b := false) (bb (by rw [hrun]; exact fr_neq _ _)) ?_
                    refine run_n (z := false) 3 (fun K' hK' => hK' _ _ _ ?_) (by decide)
                    clear hK' K'
                    refine vgo_known 149 (b := false) (rfl) ?_
                    refine run_end (z := false) fun K' hK' => hK' _ _ _ (hK _ _ _ ?_)
                    clear hK' K' hK K
                    refine vc_cond (t := false) rfl (fun h => by cases h) (fun _ => ?_)
                    refine vc_skip ?_
                    refine vc_go (by kernel_rfl) fun K hK => hK _ _ _ ?_
                    clear hK K
                    exact ⟨_, fg_focus [(6, .bool false), (7, .pointer (some ⟨0, 0, none⟩)), (8, .slice (some ⟨2, 0, none⟩) L.length cL), (9, .int .i64 ((A : Nat) : Int)), (94, .slice (some ⟨3, 0, none⟩) l1.length c3), (95, .int .i64 (l1.length : Int)), (96, .int .i64 ((j + 1 : Nat) : Int))] [(0, .cells [.slice (some ⟨1, 0, none⟩) l.length c2] 55 true), (1, .cells (rws rc l) 67 false), (2, .cells (rws ic L ++ spL) 3 true), (3, .cells (rws rc l1 ++ sp3) 67 true)] 4 (by decide) ⟨rfl, rfl, rfl, rfl, rfl, rfl, ii (wrapI (by omega) (by omega)), trivial⟩ ⟨sb rfl, sb rfl, sb rfl, sb rfl, trivial⟩ rfl (bdH_b (by decide) rfl (bdH_c (by decide) (rcs_plain l) (bdH_c (by decide) (plainL_append (ics_plain _) hpL) (bdH_c (by decide) (plainL_append (rcs_plain _) hp3) rfl)))), l1.length - (j + 1), by omega, j + 1, rfl, hlt, rfl⟩
                  · have hr1 : runs = false := by
                      rw [hruns]
                      rw [List.any_eq_false]
                      intro t ht e
                      exact hmem (by rw [← beq_iff_eq.1 e]; exact ht)
                    clear hruns
                    subst hr1
                    rw [if_neg hmem] at hrun
                    obtain ⟨n9, w9, e9, h63⟩ : ∃ (n9 w9 : Nat) (e9 : Int), Pure 63 [fr was.n was.w, u64 (kR A was)] (.tuple #[fr n9 w9, .int .i64 e9]) := by
                      by_cases hs : was.n + kR A was < 2 ^ 100
                      · exact ⟨_, _, _, p63y hrt (kR_lt A was) hs⟩
                      · exact ⟨_, _, _, p63r hrt (kR_lt A was) hs⟩
                    refine vc_reg (by kernel_rfl) fun K hK => ?_
                    refine run_n (z := false) 8 (fun K' hK' => hK' _ _ _ ?_) (by decide)
                    clear hK' K'
                    refine run_call h63 rfl (congrArg (fun x => [fr was.n was.w, .int .u64 x]) (kR_raw (by omega) was)) rfl rfl ?_
                    refine run_end (z := false) fun K' hK' => hK' _ _ _ (hK _ _ _ ?_)
                    clear hK' K' hK K
                    refine vc_seq ?_
                    refine vc_reg (by kernel_rfl) fun K hK => ?_
                    refine run_n (z := false) 2 (fun K' hK' => hK' _ _ _ ?_) (by decide)
                    clear hK' K'
                    refine vgo_known 136 (b := false) (rfl) ?_
                    refine run_n (z := false) 10 (fun K' hK' => hK' _ _ _ ?_) (by decide)
                    clear hK' K'
                    refine vgo_known 146 (b := false) (rfl) ?_
                    refine run_n (z := false) 3 (fun K' hK' => hK' _ _ _ ?_) (by decide)
                    clear hK' K'
                    refine vgo_known 149 (b := true) (rfl) ?_
                    refine run_end (z := false) fun K' hK' => hK' _ _ _ (hK _ _ _ ?_)
                    clear hK' K' hK K
                    refine vc_cond (t := false) (bb (by rw [rn_beq]; first | (rw [decide_eq_true (show r = (some was).getD z0 from hrun)]; rfl) | (rw [decide_eq_true hrun]; rfl))) (fun h => by cases h) (fun _ => ?_)
                    refine vc_skip ?_
                    refine vc_go (by kernel_rfl) fun K hK => hK _ _ _ ?_
                    clear hK K
                    exact ⟨_, fg_focus [(6, .bool false), (7, .pointer (some ⟨0, 0, none⟩)), (8, .slice (some ⟨2, 0, none⟩) L.length cL), (9, .int .i64 ((A : Nat) : Int)), (94, .slice (some ⟨3, 0, none⟩) l1.length c3), (95, .int .i64 (l1.length : Int)), (96, .int .i64 ((j + 1 : Nat) : Int))] [(0, .cells [.slice (some ⟨1, 0, none⟩) l.length c2] 55 true), (1, .cells (rws rc l) 67 false), (2, .cells (rws ic L ++ spL) 3 true), (3, .cells (rws rc l1 ++ sp3) 67 true)] 4 (by decide) ⟨rfl, rfl, rfl, rfl, rfl, rfl, ii (wrapI (by omega) (by omega)), trivial⟩ ⟨sb rfl, sb rfl, sb rfl, sb rfl, trivial⟩ rfl (bdH_b (by decide) rfl (bdH_c (by decide) (rcs_plain l) (bdH_c (by decide) (plainL_append (ics_plain _) hpL) (bdH_c (by decide) (plainL_append (rcs_plain _) hp3) rfl)))), l1.length - (j + 1), by omega, j + 1, rfl, hlt, rfl⟩
            · -- cond 24 t97 false
              refine vc_exit ?_
              refine vc_seq ?_
              refine vc_go (by kernel_rfl) fun K hK => hK _ _ _ ?_
              clear hK K
              exact vc_ret ⟨.inr rfl, rfl⟩
end Go.Proofs.Ytdfkcijholopoaa.Vm
