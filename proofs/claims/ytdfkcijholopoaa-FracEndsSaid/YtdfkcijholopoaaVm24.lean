/- A state laid anew: what is live, under new names; all else forgotten. -/
import Derived.Test.YtdfkcijholopoaaVm23
namespace Go.Proofs.Ytdfkcijholopoaa.Vm
open Go Go.RowKit
set_option linter.unusedSimpArgs false

def bdB (n : Nat) : Blk → Bool
  | .cells c _ _ => bdL n c
  | .obj _ => true

/-- Block b, seen as b0: its names turned by f; a window that begins at off, or the whole (written at will). -/
def SubB (f : Nat → Nat × Nat) (off : Nat) : Blk → Blk → Prop
  | .cells c0 t0 true, .cells c t own => off = 0 ∧ own = true ∧ t0 = t ∧ c = renL f c0
  | .cells c0 _ false, .cells c _ _ => ∀ i v, c0[i]? = some v → c[off + i]? = some (renV f v)
  | .obj o0, .obj o => off = 0 ∧ o0 = o
  | _, _ => False

theorem SubB.own {f : Nat → Nat × Nat} {off : Nat} {b0 b : Blk} (h : SubB f off b0 b) (ho : b0.own = true) : b.own = true ∧ off = 0 := by
  cases b0 with
  | cells c0 t0 own0 =>
    cases b with
    | cells c t own =>
      simp only [Blk.own] at ho
      subst ho
      exact ⟨h.2.1, h.1⟩
    | obj o => cases own0 <;> exact h.elim
  | obj o0 =>
    cases b with
    | cells c t own => exact h.elim
    | obj o => exact ⟨rfl, h.1⟩

theorem RObj.sub {ρ : Nat → Option (Nat × Nat)} {f : Nat → Nat × Nat} {K off o : Nat} {b0 b : Blk} {x : Option Obj} (hr : RObj ρ b o x) (hs : SubB f off b0 b) (hb : bdB K b0 = true) : RObj (resV ρ f K) b0 (o + off) x := by
  cases b0 with
  | cells c0 t0 own0 =>
    cases b with
    | obj ob => cases own0 <;> exact hs.elim
    | cells c t own =>
      simp only [bdB] at hb
      cases own0 with
      | true =>
        obtain ⟨rfl, rfl, rfl, rfl⟩ := hs
        obtain ⟨c', h1, rfl, h3⟩ := hr
        refine ⟨c', h1, rfl, ?_, fun i v v' hv hv' => ?_⟩
        · rw [← h3.1]
          simpa [renA] using (renA_size f ⟨c0⟩).symm
        · exact Rel.ren (h3.2 i _ v' (by rw [renL_get, hv]; rfl) hv') v rfl (bdL_get hb hv)
      | false =>
        cases own with
        | true =>
          obtain ⟨c', h5, rfl, h7⟩ := hr
          refine ⟨c', t, (0, 0), h5, fun i v hv => ?_⟩
          have h8 := hs i v hv
          obtain ⟨hlt, _⟩ := List.getElem?_eq_some_iff.1 h8
          have hlt' : off + i < c'.toList.length := by rw [← h7.1]; exact hlt
          have h9 := h7.2 _ _ (c'.toList[off + i]) h8 (List.getElem?_eq_getElem hlt')
          refine ⟨c'.toList[off + i], ?_, Rel.ren h9 v rfl (bdL_get hb hv)⟩
          rw [Nat.zero_add]
          simp
        | false =>
          obtain ⟨c', t', fz, h5, h6⟩ := hr
          refine ⟨c', t', fz, h5, fun i v hv => ?_⟩
          obtain ⟨v', h7, h8⟩ := h6 _ _ (hs i v hv)
          exact ⟨v', by rw [Nat.add_assoc]; exact h7, Rel.ren h8 v rfl (bdL_get hb hv)⟩
  | obj o0 =>
    cases b with
    | cells c t own => exact hs.elim
    | obj ob =>
      obtain ⟨rfl, rfl⟩ := hs
      exact hr

theorem isJ_ren (f : Nat → Nat × Nat) (v : Value) : isJ (renV f v) = isJ v := by
  cases v with
  | pointer a => cases a <;> rfl
  | slice a l c => cases a <;> rfl
  | _ => rfl

theorem updT_mem {t : Nat → Value} {k : Nat} : ∀ (l : List (Nat × Value)), (∃ x ∈ l, x.1 = k ∧ updT t l k = x.2) ∨ updT t l k = t k
  | [] => .inr rfl
  | (j, v) :: l => by
    by_cases e : k = j
    · subst e
      exact .inl ⟨(k, v), by simp, rfl, upd_same _ _ _⟩
    · rw [updT, upd_ne _ _ e]
      rcases updT_mem (t := t) l with ⟨x, h1, h2, h3⟩ | h
      · exact .inl ⟨x, by simp [h1], h2, h3⟩
      · exact .inr h
theorem updH_mem {k : Nat} {b : Blk} : ∀ {l : List (Nat × Blk)}, updH (fun _ => none) l k = some b → (k, b) ∈ l
  | [], h => by cases h
  | (j, c) :: l, h => by
    rw [updH] at h
    by_cases e : k = j
    · subst e
      rw [upd_same] at h
      cases h
      simp
    · rw [upd_ne _ _ e] at h
      exact List.mem_cons_of_mem _ (updH_mem h)

/-- The state of which this is known, and nothing else. -/
def can (lt : List (Nat × Value)) (lh : List (Nat × Blk)) (K : Nat) : St := ⟨updT (fun _ => junk) lt, updH (fun _ => none) lh, K⟩
/-- Whatever stands for s stands for s' (under other names, but for those below B). -/
def Fg (B : Nat) (s s' : St) : Prop :=
  ∀ (M : Nat → Prop) (w0 : World) (N : Nat) (ρ : Nat → Option (Nat × Nat)) (a : Act) (w : World), RR M w0 N (fun m => s.n ≤ m) ρ s a w → ∃ ρ', ExtB B ρ ρ' ∧ RR M w0 N (fun m => s'.n ≤ m) ρ' s' a w
theorem Fg.refl (B : Nat) (s : St) : Fg B s s := fun _ _ _ ρ _ _ h => ⟨ρ, ExtB.refl _, h⟩
theorem Fg.trans {B : Nat} {s s' s2 : St} (h : Fg B s s') (k : Fg B s' s2) : Fg B s s2 := fun M w0 N ρ a w hr =>
  let ⟨ρ', h1, h2⟩ := h M w0 N ρ a w hr
  let ⟨ρ2, h3, h4⟩ := k M w0 N ρ' a w h2
  ⟨ρ2, h1.trans h3, h4⟩

theorem fg_shift {B : Nat} (g : Nat → Nat) {s : St} (lt : List (Nat × Value)) (lh : List (Nat × Blk)) (K : Nat) (hB : B ≤ K) (hg : ∀ m, m < B → g m = m)
    (ht : ∀ x ∈ lt, s.t x.1 = renV (fun k => (g k, 0)) x.2 ∧ bdV K x.2 = true)
    (hh : ∀ x ∈ lh, (∃ b, s.h (g x.1) = some b ∧ SubB (fun k => (g k, 0)) 0 x.2 b) ∧ bdB K x.2 = true ∧ x.1 < K)
    (hi : ∀ x ∈ lh, ∀ y ∈ lh, x.1 ≠ y.1 → x.2.own = true → g x.1 ≠ g y.1) : Fg B s (can lt lh K) := by
  intro M w0 N ρ a w hr
  refine ⟨resV ρ (fun k => (g k, 0)) K, fun m x hm hx => ?_, hr.size, hr.defers, fun k hk => ?_, ⟨fun m b hm => ?_, fun m m' b b' r o r' o' hm hm' hne hown h1 h2 => ?_, hr.heap.new⟩, fun m hm => if_neg (by simp only [can] at hm; omega), hr.kept⟩
  · simp only [resV]
    rw [if_pos (by omega), hg m hm, hx]
    rfl
  · simp only [can] at hk ⊢
    rcases updT_mem (t := fun _ => junk) (k := k) lt with ⟨x, h1, h2, h3⟩ | h
    · rw [h3] at hk ⊢
      obtain ⟨h4, h5⟩ := ht x h1
      rw [h2] at h4
      have h6 := hr.tmp k (by rw [h4, isJ_ren]; exact hk)
      exact Rel.ren h6 x.2 h4 h5
    · rw [h] at hk
      cases hk
  · have hm' := updH_mem hm
    obtain ⟨⟨b1, h1, h2⟩, h3, h4⟩ := hh _ hm'
    simp only at h1 h2 h3 h4
    obtain ⟨r, o, h5, h6, h7⟩ := hr.heap.blk _ _ h1
    refine ⟨r, o, by simp only [resV, if_pos h4, h5, Option.map_some, Nat.add_zero], ?_, fun ho => h7 (h2.own ho).1⟩
    have := h6.sub h2 h3
    rwa [Nat.add_zero] at this
  · have hx := updH_mem hm
    have hy := updH_mem hm'
    obtain ⟨⟨b1, e1, e2⟩, e3, e4⟩ := hh _ hx
    obtain ⟨⟨b2, d1, d2⟩, d3, d4⟩ := hh _ hy
    simp only at e1 e2 e3 e4 d1 d2 d3 d4
    simp only [resV, if_pos e4] at h1
    simp only [resV, if_pos d4] at h2
    cases hr1 : ρ (g m) with
    | none => rw [hr1] at h1; cases h1
    | some x1 =>
      cases hr2 : ρ (g m') with
      | none => rw [hr2] at h2; cases h2
      | some x2 =>
        rw [hr1] at h1
        rw [hr2] at h2
        simp only [Option.map_some, Option.some.injEq, Prod.mk.injEq] at h1 h2
        obtain ⟨q1, p1⟩ := x1
        obtain ⟨q2, p2⟩ := x2
        simp only at h1 h2
        have := hr.heap.inj _ _ _ _ q1 p1 q2 p2 e1 d1 (hi _ hx _ hy hne hown) (e2.own hown).1 hr1 hr2
        rw [← h1.1, ← h2.1]
        exact this

theorem renV_id (v : Value) : renV (fun k => (k, 0)) v = v := by
  refine Value.rec (motive_1 := fun v => renV (fun k => (k, 0)) v = v) (motive_2 := fun c => renA (fun k => (k, 0)) c = c) (motive_3 := fun l => renL (fun k => (k, 0)) l = l)
        ?_ ?_ ?_ ?_ ?_ ?_ ?_ ?_ ?_ ?_ ?_ ?_ ?_ ?_ ?_ ?_ ?_ ?_ v
  · intro b; rfl
  · intro k n; rfl
  · intro k n; rfl
  · intro k n m; rfl
  · intro s; rfl
  · intro a
    cases a with
    | none => rfl
    | some a => simp only [renV, Nat.zero_add]
  · intro a l c
    cases a with
    | none => rfl
    | some a => simp only [renV, Nat.zero_add]
  · intro r; rfl
  · intro r; rfl
  · intro fn a c iha ihc; simp only [renV, iha, ihc]
  · rfl
  · intro t v _; rfl
  · rfl
  · intro c ih; simp only [renV, ih]
  · intro c ih; simp only [renV, ih]
  · intro l ih; simp only [renA, ih]
  · rfl
  · intro v l ihv ihl; simp only [renL, ihv, ihl]
theorem renL_id (l : List Value) : renL (fun k => (k, 0)) l = l := by
  induction l with
  | nil => rfl
  | cons v l ih => simp only [renL, renV_id, ih]

/-- Block k of h, seen as b. -/
def Sb (h : Nat → Option Blk) (k : Nat) (b : Blk) : Prop := ∃ b1, h k = some b1 ∧ SubB (fun k => (k, 0)) 0 b b1
theorem sb {h : Nat → Option Blk} {k : Nat} {b : Blk} (e : h k = some b) : Sb h k b := by
  refine ⟨b, e, ?_⟩
  cases b with
  | obj o => exact ⟨rfl, rfl⟩
  | cells c t own =>
    cases own with
    | true => exact ⟨rfl, rfl, rfl, (renL_id c).symm⟩
    | false => exact fun i v hv => by rw [renV_id, Nat.zero_add]; exact hv
theorem sb_win {h : Nat → Option Blk} {k : Nat} {c c0 : List Value} {t t0 : TypeId} {own : Bool} (e : h k = some (.cells c t own)) (hw : ∀ (i : Nat) (v : Value), c0[i]? = some v → c[i]? = some v) : Sb h k (.cells c0 t0 false) :=
  ⟨_, e, fun i v hv => by rw [renV_id, Nat.zero_add]; exact hw i v hv⟩
theorem get_app {a b : List Value} : ∀ (i : Nat) (v : Value), a[i]? = some v → (a ++ b)[i]? = some v := fun i v h => by
  rw [List.getElem?_append_left (List.getElem?_eq_some_iff.1 h).1]; exact h
def HasS (h : Nat → Option Blk) : List (Nat × Blk) → Prop
  | [] => True
  | (k, b) :: l => Sb h k b ∧ HasS h l
def bdT (K : Nat) : List (Nat × Value) → Bool
  | [] => true
  | (_, v) :: l => match bdV K v with
    | true => bdT K l
    | false => false
def bdH (K : Nat) : List (Nat × Blk) → Bool
  | [] => true
  | (k, b) :: l => decide (k < K) && (bdB K b && bdH K l)
theorem HasT.mem {t : Nat → Value} : ∀ {l : List (Nat × Value)}, HasT t l → ∀ x ∈ l, t x.1 = x.2
  | [], _, x, hx => by cases hx
  | y :: l, h, x, hx => by
    rcases List.mem_cons.1 hx with rfl | hx
    · exact h.1
    · exact h.2.mem x hx
theorem HasS.mem {t : Nat → Option Blk} : ∀ {l : List (Nat × Blk)}, HasS t l → ∀ x ∈ l, Sb t x.1 x.2
  | [], _, x, hx => by cases hx
  | y :: l, h, x, hx => by
    rcases List.mem_cons.1 hx with rfl | hx
    · exact h.1
    · exact h.2.mem x hx
theorem bdT_mem {K : Nat} : ∀ {l : List (Nat × Value)}, bdT K l = true → ∀ x ∈ l, bdV K x.2 = true
  | [], _, x, hx => by cases hx
  | y :: l, h, x, hx => by
    unfold bdT at h
    split at h
    · rename_i hy
      rcases List.mem_cons.1 hx with rfl | hx
      · exact hy
      · exact bdT_mem h x hx
    · cases h
theorem bdH_mem {K : Nat} : ∀ {l : List (Nat × Blk)}, bdH K l = true → ∀ x ∈ l, x.1 < K ∧ bdB K x.2 = true
  | [], _, x, hx => by cases hx
  | y :: l, h, x, hx => by
    simp only [bdH, Bool.and_eq_true, decide_eq_true_eq] at h
    rcases List.mem_cons.1 hx with rfl | hx
    · exact ⟨h.1, h.2.1⟩
    · exact bdH_mem h.2.2 x hx

theorem fg_focus {B : Nat} {s : St} (lt : List (Nat × Value)) (lh : List (Nat × Blk)) (K : Nat) (hB : B ≤ K) (ht : HasT s.t lt) (hh : HasS s.h lh) (hb : bdT K lt = true) (hb' : bdH K lh = true) : Fg B s (can lt lh K) := by
  refine fg_shift (fun k => k) lt lh K hB (fun _ _ => rfl) (fun x hx => ?_) (fun x hx => ?_) (fun x _ y _ h _ => h)
  · rw [renV_id]
    exact ⟨ht.mem x hx, bdT_mem hb x hx⟩
  · obtain ⟨h1, h2⟩ := bdH_mem hb' x hx
    exact ⟨hh.mem x hx, h2, h1⟩

theorem vc_fg {B N : Nat} {c : Code} {Q : Exit → St → Prop} {s s' : St} (h : Fg B s s') (k : VC (B := B) N c Q s') : VC (B := B) N c Q s := by
  intro M w0 ρ a w hr
  obtain ⟨ρ1, h1, h2⟩ := h M w0 N ρ a w hr
  refine wp_mono (k M w0 ρ1 a w h2) ?_
  rintro e a' w' ⟨ρ', s', h3, h4, h5⟩
  exact ⟨ρ', s', h1.trans h3, h4, h5⟩
/-- The state laid anew. -/
theorem vc_focus {B N : Nat} {c : Code} {Q : Exit → St → Prop} {s : St} (lt : List (Nat × Value)) (lh : List (Nat × Blk)) (K : Nat) (hB : B ≤ K) (ht : HasT s.t lt) (hh : HasS s.h lh) (hb : bdT K lt = true) (hb' : bdH K lh = true)
    (k : VC (B := B) N c Q ⟨updT (fun _ => junk) lt, updH (fun _ => none) lh, K⟩) : VC (B := B) N c Q s := vc_fg (fg_focus lt lh K hB ht hh hb hb') k
theorem vc_post {B N : Nat} {c : Code} {Q : Exit → St → Prop} {s : St} (h : VC (B := B) N c (fun e s => ∃ s', Fg B s s' ∧ Q e s') s) : VC (B := B) N c Q s := by
  intro M w0 ρ a w hr
  refine wp_mono (h M w0 ρ a w hr) ?_
  rintro e a' w' ⟨ρ', s1, h3, h4, s2, h5, h6⟩
  obtain ⟨ρ2, h7, h8⟩ := h5 M w0 N ρ' a' w' h4
  exact ⟨ρ2, s2, h3.trans h7, h8, h6⟩
/-- A loop whose rounds begin in states laid anew. -/
theorem vc_loopF {B N : Nat} {c : Code} {Q : Exit → St → Prop} {s : St} (I : Nat → St → Prop) (n0 : Nat) (h0 : ∃ s0, Fg B s s0 ∧ I n0 s0)
    (round : ∀ n s, I n s → VC (B := B) N c (fun e s' => match e with | .normal => ∃ s2, Fg B s' s2 ∧ ∃ n', n' < n ∧ I n' s2 | e => Q e s') s) : VC (B := B) N (.loop c) Q s := by
  obtain ⟨s0, h1, h2⟩ := h0
  refine vc_fg h1 (vc_loop I n0 h2 fun n s hI => vc_post ((round n s hI).mono ?_))
  intro e s' h
  cases e with
  | normal => exact h
  | _ => exact ⟨s', Fg.refl _ _, h⟩
/-- Behind a region: the state laid anew. -/
theorem refocusF {B N : Nat} {y : Code} {Q : Exit → St → Prop} {t : Nat → Value} {h : Nat → Option Blk} {n : Nat} (lt : List (Nat × Value)) (lh : List (Nat × Blk)) (K : Nat) (hB : B ≤ K) (ht : HasT t lt) (hh : HasS h lh) (hb : bdT K lt = true) (hb' : bdH K lh = true)
    (k : thenV (B := B) N y Q .normal ⟨updT (fun _ => junk) lt, updH (fun _ => none) lh, K⟩) : thenV (B := B) N y Q .normal ⟨t, h, n⟩ :=
  vc_focus (s := ⟨t, h, n⟩) lt lh K hB ht hh hb hb' k

theorem bdV_plain (K : Nat) (v : Value) : plain v = true → bdV K v = true := by
  refine Value.rec (motive_1 := fun v => plain v = true → bdV K v = true) (motive_2 := fun c => plainA c = true → bdA K c = true) (motive_3 := fun l => plainL l = true → bdL K l = true)
        ?_ ?_ ?_ ?_ ?_ ?_ ?_ ?_ ?_ ?_ ?_ ?_ ?_ ?_ ?_ ?_ ?_ ?_ v
  · intro b _; rfl
  · intro k n _; rfl
  · intro k n _; rfl
  · intro k n m _; rfl
  · intro s _; rfl
  · intro a h
    cases a with
    | none => rfl
    | some a => simp [plain] at h
  · intro a l c h
    cases a with
    | none => rfl
    | some a => simp [plain] at h
  · intro r h
    cases r with
    | none => rfl
    | some a => simp [plain] at h
  · intro r h
    cases r with
    | none => rfl
    | some a => simp [plain] at h
  · intro fn a c iha ihc h
    simp only [plain, Bool.and_eq_true] at h
    simp only [bdV, iha h.1, ihc h.2, Bool.and_self]
  · intro _; rfl
  · intro t v _ h; simpa [plain, bdV] using h
  · intro _; rfl
  · intro c ih h; simp only [bdV]; exact ih (by simpa [plain] using h)
  · intro c ih h; simp only [bdV]; exact ih (by simpa [plain] using h)
  · intro l ih h; simp only [bdA]; exact ih (by simpa [plainA] using h)
  · intro _; rfl
  · intro v l ihv ihl h
    simp only [plainL, Bool.and_eq_true] at h
    simp only [bdL, ihv h.1, ihl h.2, Bool.and_self]
theorem bdL_plain (K : Nat) {l : List Value} (h : plainL l = true) : bdL K l = true := by
  induction l with
  | nil => rfl
  | cons v l ih =>
    simp only [plainL, Bool.and_eq_true] at h
    simp only [bdL, bdV_plain K v h.1, ih h.2, Bool.and_self]
theorem renV_plain (f : Nat → Nat × Nat) (v : Value) : plain v = true → renV f v = v := by
  refine Value.rec (motive_1 := fun v => plain v = true → renV f v = v) (motive_2 := fun c => plainA c = true → renA f c = c) (motive_3 := fun l => plainL l = true → renL f l = l)
        ?_ ?_ ?_ ?_ ?_ ?_ ?_ ?_ ?_ ?_ ?_ ?_ ?_ ?_ ?_ ?_ ?_ ?_ v
  · intro b _; rfl
  · intro k n _; rfl
  · intro k n _; rfl
  · intro k n m _; rfl
  · intro s _; rfl
  · intro a h
    cases a with
    | none => rfl
    | some a => simp [plain] at h
  · intro a l c h
    cases a with
    | none => rfl
    | some a => simp [plain] at h
  · intro r _; rfl
  · intro r _; rfl
  · intro fn a c iha ihc h
    simp only [plain, Bool.and_eq_true] at h
    simp only [renV, iha h.1, ihc h.2]
  · intro _; rfl
  · intro t v _ h; rfl
  · intro _; rfl
  · intro c ih h; simp only [renV]; rw [ih (by simpa [plain] using h)]
  · intro c ih h; simp only [renV]; rw [ih (by simpa [plain] using h)]
  · intro l ih h; simp only [renA]; rw [ih (by simpa [plainA] using h)]
  · intro _; rfl
  · intro v l ihv ihl h
    simp only [plainL, Bool.and_eq_true] at h
    simp only [renL, ihv h.1, ihl h.2]
theorem renL_plain (f : Nat → Nat × Nat) {l : List Value} (h : plainL l = true) : renL f l = l := by
  induction l with
  | nil => rfl
  | cons v l ih =>
    simp only [plainL, Bool.and_eq_true] at h
    simp only [renL, renV_plain f v h.1, ih h.2]

end Go.Proofs.Ytdfkcijholopoaa.Vm
