/- A region that draws its order: the run in the order of the text serves every order. -/
import Derived.Test.YtdfkcijholopoaaVm9
namespace Go.Proofs.Ytdfkcijholopoaa.Vm
open Go
set_option linter.unusedSimpArgs false

theorem silent_val {ev : Operand → Value} {h : Nat → Option Blk} {op : Op} {ef : Ef} (hk : kd op = .silent) (hv : vex ev h op = some ef) : ∃ v, ef = .val v := by
  have om : ∀ {α : Type} {x : Option α} {f : α → Value}, x.map (fun a => Ef.val (f a)) = some ef → ∃ v, ef = .val v := by
    intro α x f h
    cases x with
    | none => cases h
    | some a => cases h; exact ⟨_, rfl⟩
  have om' : ∀ {x : Option Value}, x.map Ef.val = some ef → ∃ v, ef = .val v := by
    intro x h
    cases x with
    | none => cases h
    | some a => cases h; exact ⟨_, rfl⟩
  unfold vex at hv
  split at hv <;> try (simp only [kd] at hk; cases hk; done)
  all_goals try (first | (cases hv; done) | (cases hv; exact ⟨_, rfl⟩))
  all_goals try (exact om' hv)
  all_goals (split at hv <;> try (first | (cases hv; done) | (cases hv; exact ⟨_, rfl⟩) | exact om hv | exact om' hv))
  all_goals (split at hv <;> try (first | (cases hv; done) | (cases hv; exact ⟨_, rfl⟩) | exact om hv | exact om' hv))
  all_goals (split at hv <;> try (first | (cases hv; done) | (cases hv; exact ⟨_, rfl⟩) | exact om hv | exact om' hv))

theorem kd_rd {op : Op} (hk : kd op = .rd) : ∃ t x, op = .load t x := by
  unfold kd at hk
  split at hk <;> first | (cases hk; done) | exact ⟨_, _, rfl⟩
theorem rd_noWrite {ev : Operand → Value} {h : Nat → Option Blk} {op : Op} {ef : Ef} (hk : kd op = .rd) (hv : vex ev h op = some ef) : ∃ m v, ef = .rd m v := by
  obtain ⟨t, x, rfl⟩ := kd_rd hk
  simp only [vex] at hv
  split at hv
  · split at hv
    · rename_i m k ag z _ _ _ c _ _ _
      cases hp : partAt ag z.length c k with
      | none => rw [hp] at hv; cases hv
      | some v => rw [hp] at hv; cases hv; exact ⟨_, _, rfl⟩
    · cases hv
  · cases hv

theorem cst_kd {ops : Array Oper} {base i : Nat} {o : Oper} {s : St} {rd : List Nat} {v : Value} {u : List (Nat × Blk)} (h : cst ops base i o s = some (rd, v, u)) :
    (kd o.op = .silent → rd = [] ∧ u.map (·.1) = []) ∧ (kd o.op = .rd → u.map (·.1) = []) := by
  unfold cst at h
  split at h
  · cases he : vex s.ev s.h o.op with
    | none => rw [he] at h; cases h
    | some ef =>
      rw [he] at h
      cases h
      refine ⟨fun hk => ?_, fun hk => ?_⟩
      · obtain ⟨v, rfl⟩ := silent_val hk he; exact ⟨rfl, rfl⟩
      · obtain ⟨m, v, rfl⟩ := rd_noWrite hk he; rfl
  · cases h
    exact ⟨fun _ => ⟨rfl, rfl⟩, fun _ => rfl⟩
  · cases h

theorem ev_same {s s' : St} {ops : Array Oper} {o : Oper} (ht : ∀ d ∈ o.looksAt ops, s'.t d = s.t d) : (∀ x ∈ o.op.operands, s'.ev x = s.ev x) ∧ wantV ops o s'.t = wantV ops o s.t := by
  refine ⟨fun x hx => ?_, ?_⟩
  · cases x with
    | tmp k => exact ht k (by unfold Oper.looksAt; exact List.mem_append_left _ (List.mem_filterMap.2 ⟨.tmp k, by simpa using hx, rfl⟩))
    | _ => rfl
  · have hJ : opJ s'.t o.op = opJ s.t o.op := opJ_local fun k hk => ht k (by unfold Oper.looksAt; exact List.mem_append_left _ (List.mem_filterMap.2 ⟨.tmp k, by simpa using hk, rfl⟩))
    unfold wantV
    rw [hJ]
    cases hg : o.guard with
    | none => rfl
    | some g =>
      obtain ⟨j, want⟩ := g
      simp only
      cases hd : (ops[j]?).bind (·.dst) with
      | none => rfl
      | some d =>
        have := ht d (by unfold Oper.looksAt; rw [hg]; simp [hd])
        simp only [this]

theorem cst_local {ops : Array Oper} {base i : Nat} {o : Oper} {s s' : St} {rd : List Nat} {v : Value} {u : List (Nat × Blk)} (ht : ∀ d ∈ o.looksAt ops, s'.t d = s.t d) (hh : ∀ m ∈ rd, s'.h m = s.h m)
    (h : cst ops base i o s = some (rd, v, u)) : cst ops base i o s' = some (rd, v, u) := by
  obtain ⟨h1, h2⟩ := ev_same (s := s) (s' := s') ht
  unfold cst at h ⊢
  rw [h2]
  cases hw : wantV ops o s.t with
  | none => rw [hw] at h; cases h
  | some b =>
    rw [hw] at h
    cases b with
    | false => exact h
    | true =>
      simp only at h ⊢
      cases he : vex s.ev s.h o.op with
      | none => rw [he] at h; cases h
      | some ef =>
        rw [he] at h
        cases h
        rw [vex_local h1 hh he]
        rfl

theorem app_t {s : St} {d : Option Nat} {v : Value} {u : List (Nat × Blk)} {k : Nat} (h : d ≠ some k) : (s.app d v u).t k = s.t k := by
  cases d with
  | none => rfl
  | some e => exact upd_ne _ _ fun he => h (he ▸ rfl)
theorem app_h (s : St) (d : Option Nat) (v : Value) (u : List (Nat × Blk)) : (s.app d v u).h = updL s.h u := rfl
theorem app_comm {s : St} {d d' : Option Nat} {v v' : Value} {u u' : List (Nat × Blk)} (hd : ∀ k, d = some k → d' ≠ some k) (hu : ∀ x ∈ u, ∀ y ∈ u', x.1 ≠ y.1) : (s.app d v u).app d' v' u' = (s.app d' v' u').app d v u := by
  have h1 := updL_comm s.h u u' hu
  cases d with
  | none =>
    cases d' with
    | none => simp only [St.app, St.put, h1, bump_comm u u']
    | some e => simp only [St.app, St.put, h1, bump_comm u u']
  | some k =>
    cases d' with
    | none => simp only [St.app, St.put, h1, bump_comm u u']
    | some e =>
      have : e ≠ k := fun he => hd k rfl (he ▸ rfl)
      simp only [St.app, St.put, h1, upd_comm s.t v v' this, bump_comm u u']

def comm : Kd → Kd → Bool
  | .silent, _ => true
  | _, .silent => true
  | .rd, .rd => true
  | _, _ => false

def Ind (ops : Array Oper) (U : List (Nat × Nat)) (j : Nat) (oj : Oper) (i : Nat) (oi : Oper) : Prop :=
  Oper.apart ops oj oi = true ∧ (comm (kd oj.op) (kd oi.op) = true ∨ (j, i) ∈ U) ∧ ¬ (kd oj.op = .sp ∧ kd oi.op = .sp)

theorem disj {U : List (Nat × Nat)} {kj ki : Kd} {j i : Nat} {rdj wrj rdi wri : List Nat} {log : List (Nat × List Nat × List Nat)} (h : comm kj ki = true ∨ (j, i) ∈ U)
    (hj : (kj = .silent → rdj = [] ∧ wrj = []) ∧ (kj = .rd → wrj = [])) (hi : (ki = .silent → rdi = [] ∧ wri = []) ∧ (ki = .rd → wri = []))
    (hc : chk U ((j, rdj, wrj) :: log) i rdi wri) : (∀ m ∈ wrj, m ∉ rdi ∧ m ∉ wri) ∧ (∀ m ∈ rdj, m ∉ wri) := by
  rcases h with h | h
  · cases kj with
    | silent => obtain ⟨rfl, rfl⟩ := hj.1 rfl; simp
    | rd =>
      have := hj.2 rfl
      subst this
      cases ki with
      | silent => obtain ⟨rfl, rfl⟩ := hi.1 rfl; simp
      | rd => have := hi.2 rfl; subst this; simp
      | _ => cases h
    | _ =>
      cases ki with
      | silent => obtain ⟨rfl, rfl⟩ := hi.1 rfl; simp
      | _ => cases h
  · exact hc _ List.mem_cons_self h

theorem names_ne {u u' : List (Nat × Blk)} (h : ∀ m ∈ u.map (·.1), m ∉ u'.map (·.1)) : ∀ x ∈ u, ∀ y ∈ u', x.1 ≠ y.1 :=
  fun x hx y hy e => h x.1 (List.mem_map.2 ⟨x, hx, rfl⟩) (List.mem_map.2 ⟨y, hy, e.symm⟩)

/-- AN OPERATION THAT IS INDEPENDENT OF ALL THAT STAND AHEAD OF IT MAY BE TAKEN FIRST. -/
theorem pull {ops : Array Oper} {U : List (Nat × Nat)} {base i : Nat} {o : Oper} {post : List (Nat × Oper)} {K : St → Prop} : ∀ (pre : List (Nat × Oper)) (log : List (Nat × List Nat × List Nat)) (s : St),
    (∀ x ∈ pre, Ind ops U x.1 x.2 i o) → vlex ops U base (pre ++ (i, o) :: post) log s K →
    (∃ rd v u, cst ops base i o s = some (rd, v, u) ∧ chk U log i rd (u.map (·.1)) ∧ vlex ops U base (pre ++ post) log (s.app o.dst v u) K) ∨
    (kd o.op = .sp ∧ wantV ops o s.t = some true ∧ ∃ rd Out, SpOk o (base + i) s.ev s.h rd Out ∧ (∃ v u, Out v u) ∧
      ∀ v u, Out v u → chk U log i rd (u.map (·.1)) ∧ vlex ops U base (pre ++ post) log (s.app o.dst v u) K)
  | [], log, s, _, h => by
    rcases h with ⟨rd, v, u, h1, h2, h3⟩ | ⟨h0, h1, rd, Out, h2, h3, h4⟩
    · exact .inl ⟨rd, v, u, h1, h2, vlex_log (fun e he => List.mem_cons_of_mem _ he) h3⟩
    · exact .inr ⟨h0, h1, rd, Out, h2, h3, fun v u hu => ⟨(h4 v u hu).1, vlex_log (fun e he => List.mem_cons_of_mem _ he) (h4 v u hu).2⟩⟩
  | (j, oj) :: pre, log, s, hind, h => by
    obtain ⟨hap, hcomm, hsp⟩ := hind (j, oj) (by simp)
    simp only at hap hcomm hsp
    obtain ⟨a1, a2, a3⟩ := Oper.apart_spec hap
    have hind' : ∀ x ∈ pre, Ind ops U x.1 x.2 i o := fun x hx => hind x (List.mem_cons_of_mem _ hx)
    have tI : ∀ (s : St) (v : Value) (u : List (Nat × Blk)), ∀ d ∈ o.looksAt ops, (s.app oj.dst v u).t d = s.t d := fun s v u d hd => app_t fun e => a1 d e hd
    have tJ : ∀ (s : St) (v : Value) (u : List (Nat × Blk)), ∀ d ∈ oj.looksAt ops, (s.app o.dst v u).t d = s.t d := fun s v u d hd => app_t fun e => a3 d e hd
    have weak : ∀ {x : Nat × List Nat × List Nat} {i' : Nat} {rd wr : List Nat}, chk U (x :: log) i' rd wr → chk U log i' rd wr := fun h e he => h e (List.mem_cons_of_mem _ he)
    rcases h with ⟨rdj, vj, uj, c1, c2, c3⟩ | ⟨s0, s1, rdj, Outj, s2, s3, s4⟩
    · -- the earlier one is a core operation
      rcases pull pre _ _ hind' c3 with ⟨rdi, vi, ui, d1, d2, d3⟩ | ⟨e0, e1, rdi, Outi, e2, e3, e4⟩
      · obtain ⟨f1, f2⟩ := disj hcomm (cst_kd c1) (cst_kd d1) d2
        have hI : cst ops base i o s = some (rdi, vi, ui) := cst_local (s := s.app oj.dst vj uj) (fun d hd => (tI s vj uj d hd).symm)
          (fun m hm => (updL_other fun x hx e => (f1 x.1 (List.mem_map.2 ⟨x, hx, rfl⟩)).1 (e ▸ hm)).symm) d1
        have hJ : cst ops base j oj (s.app o.dst vi ui) = some (rdj, vj, uj) := cst_local (tJ s vi ui) (fun m hm => updL_other fun x hx e => f2 m hm (List.mem_map.2 ⟨x, hx, e⟩)) c1
        refine .inl ⟨rdi, vi, ui, hI, weak d2, .inl ⟨rdj, vj, uj, hJ, c2, ?_⟩⟩
        rw [app_comm (fun k hk => fun hk' => a2 k hk' hk) (names_ne fun m hm hm' => (f1 m hm').2 hm)]
        exact d3
      · obtain ⟨v0, u0, hu0⟩ := e3
        have hkI : (kd o.op = .silent → rdi = [] ∧ u0.map (·.1) = []) ∧ (kd o.op = .rd → u0.map (·.1) = []) := ⟨fun hk => (by rw [e0] at hk; cases hk), fun hk => (by rw [e0] at hk; cases hk)⟩
        have hkI' : ∀ u' : List Nat, (kd o.op = .silent → rdi = [] ∧ u' = []) ∧ (kd o.op = .rd → u' = []) := fun u' => ⟨fun hk => (by rw [e0] at hk; cases hk), fun hk => (by rw [e0] at hk; cases hk)⟩
        have hkJ : (kd oj.op = .silent → rdj = [] ∧ uj.map (·.1) = []) ∧ (kd oj.op = .rd → uj.map (·.1) = []) := cst_kd c1
        obtain ⟨f1, _⟩ := disj hcomm hkJ hkI (e4 v0 u0 hu0).1
        obtain ⟨g1, g2⟩ := ev_same (s := s.app oj.dst vj uj) (s' := s) (ops := ops) (o := o) (fun d hd => (tI s vj uj d hd).symm)
        have hI : SpOk o (base + i) s.ev s.h rdi Outi := e2.local g1 (fun m hm => (updL_other fun x hx e => (f1 x.1 (List.mem_map.2 ⟨x, hx, rfl⟩)).1 (e ▸ hm)).symm)
        refine .inr ⟨e0, g2.trans e1, rdi, Outi, hI, ⟨v0, u0, hu0⟩, fun vi ui hui => ?_⟩
        obtain ⟨d2, d3⟩ := e4 vi ui hui
        obtain ⟨f1, f2⟩ := disj hcomm hkJ (hkI' _) d2
        have hJ : cst ops base j oj (s.app o.dst vi ui) = some (rdj, vj, uj) := cst_local (tJ s vi ui) (fun m hm => updL_other fun x hx e => f2 m hm (List.mem_map.2 ⟨x, hx, e⟩)) c1
        refine ⟨weak d2, .inl ⟨rdj, vj, uj, hJ, c2, ?_⟩⟩
        rw [app_comm (fun k hk => fun hk' => a2 k hk' hk) (names_ne fun m hm hm' => (f1 m hm').2 hm)]
        exact d3
    · -- the earlier one is a special operation: then the one that is pulled is a core operation
      have core : ∀ vj uj, Outj vj uj → ∃ rdi vi ui, cst ops base i o (s.app oj.dst vj uj) = some (rdi, vi, ui) ∧ chk U ((j, rdj, uj.map (·.1)) :: log) i rdi (ui.map (·.1)) ∧ vlex ops U base (pre ++ post) ((j, rdj, uj.map (·.1)) :: log) ((s.app oj.dst vj uj).app o.dst vi ui) K := by
        intro vj uj huj
        rcases pull pre _ _ hind' (s4 vj uj huj).2 with ⟨rdi, vi, ui, d1, d2, d3⟩ | ⟨e0, _⟩
        · exact ⟨rdi, vi, ui, d1, d2, d3⟩
        · exact absurd ⟨s0, e0⟩ hsp
      have hkJ : ∀ u' : List Nat, (kd oj.op = .silent → rdj = [] ∧ u' = []) ∧ (kd oj.op = .rd → u' = []) := fun u' => ⟨fun hk => (by rw [s0] at hk; cases hk), fun hk => (by rw [s0] at hk; cases hk)⟩
      have hkI : ∀ {rdi vi ui s}, cst ops base i o s = some (rdi, vi, ui) → (kd o.op = .silent → rdi = [] ∧ ui.map (·.1) = []) ∧ (kd o.op = .rd → ui.map (·.1) = []) := fun hc => cst_kd hc
      have back : ∀ {vj uj rdi vi ui}, cst ops base i o (s.app oj.dst vj uj) = some (rdi, vi, ui) → (∀ m ∈ uj.map (·.1), m ∉ rdi) → cst ops base i o s = some (rdi, vi, ui) := by
        intro vj uj rdi vi ui hc hd
        exact cst_local (s := s.app oj.dst vj uj) (fun d hd => (tI s vj uj d hd).symm) (fun m hm => (updL_other fun x hx e => hd x.1 (List.mem_map.2 ⟨x, hx, rfl⟩) (e ▸ hm)).symm) hc
      obtain ⟨v0, u0, hu0⟩ := s3
      obtain ⟨rdi, vi, ui, d1, d2, _⟩ := core v0 u0 hu0
      obtain ⟨f1, f2⟩ := disj hcomm (hkJ _) (hkI d1) d2
      have hI := back d1 fun m hm => (f1 m hm).1
      obtain ⟨g1, g2⟩ := ev_same (s := s) (s' := s.app o.dst vi ui) (ops := ops) (o := oj) (tJ s vi ui)
      have hJ : SpOk oj (base + j) (s.app o.dst vi ui).ev (s.app o.dst vi ui).h rdj Outj := s2.local g1 (fun m hm => updL_other fun x hx e => f2 m hm (List.mem_map.2 ⟨x, hx, e⟩))
      refine .inl ⟨rdi, vi, ui, hI, weak d2, .inr ⟨s0, g2.trans s1, rdj, Outj, hJ, ⟨v0, u0, hu0⟩, fun vj uj huj => ⟨(s4 vj uj huj).1, ?_⟩⟩⟩
      obtain ⟨rdi', vi', ui', d1', d2', d3'⟩ := core vj uj huj
      obtain ⟨f1', _⟩ := disj hcomm (hkJ _) (hkI d1') d2'
      have hI' := back d1' fun m hm => (f1' m hm).1
      rw [hI] at hI'
      cases hI'
      rw [app_comm (fun k hk => fun hk' => a2 k hk' hk) (names_ne fun m hm hm' => (f1' m hm').2 hm)]
      exact d3'

end Go.Proofs.Ytdfkcijholopoaa.Vm
