/- Loops of a known number of rounds; steps at an index that is a variable; results. -/
import Derived.Test.YtdfkcijholopoaaVm16
import Derived.LoopN
namespace Go.Proofs.Ytdfkcijholopoaa.Vm
open Go Go.RowKit
set_option linter.unusedSimpArgs false

def VCr {B : Nat} (N : Nat) (c : Code) (Q : Exit → St → Prop) : Nat → St → Prop
  | 0, _ => False
  | n + 1, s => VC (B := B) N c (fun e s' => match e with | .normal => VCr (B := B) N c Q n s' | e => Q e s') s

/-- A loop of at most n rounds, walked round by round. -/
theorem vc_rounds {B N : Nat} {c : Code} {Q : Exit → St → Prop} {s : St} (n : Nat) (h : VCr (B := B) N c Q n s) : VC (B := B) N (.loop c) Q s := by
  intro M w0 ρ a w hr
  refine wp_loop_rounds n ?_
  have key : ∀ (n : Nat) (s : St) (ρ1 : Nat → Option (Nat × Nat)) (a : Act) (w : World), ExtB B ρ ρ1 → RR M w0 N (fun m => s.n ≤ m) ρ1 s a w → VCr (B := B) N c Q n s →
      Code.rounds P c (fun e a' w' => ∃ ρ' s', ExtB B ρ ρ' ∧ RR M w0 N (fun m => s'.n ≤ m) ρ' s' a' w' ∧ Q e s') n a w := by
    intro n
    induction n with
    | zero => intro s ρ1 a w _ _ h; exact h.elim
    | succ n ih =>
      intro s ρ1 a w he hr h
      refine wp_mono (h M w0 ρ1 a w hr) ?_
      rintro e a' w' ⟨ρ2, s2, h4, h5, h6⟩
      cases e with
      | normal => exact ih s2 ρ2 a' w' (he.trans h4) h5 h6
      | _ => exact ⟨ρ2, s2, he.trans h4, h5, h6⟩
  exact key n s ρ a w (ExtB.refl _) hr h

theorem setAt_one {n k : Nat} {c : List Value} {v : Value} (hz : n = 1) (ho : v.oneCell' = true) (hna : ∀ a, v ≠ .agg a) (hl : k < c.length) : setAt n c k v = some (c.set k v) := by
  subst hz
  cases v with
  | agg a => exact absurd rfl (hna a)
  | _ => simp [setAt, ho, hl]
section
variable {ev : Operand → Value} {h : Nat → Option Blk}
theorem vex_ixs {t : Nat} {x i : Operand} {m k len cap : Nat} {kk : IntKind} {n : Int} {j e : Nat} {ag : Bool} {z : List Value} (hx : ev x = .slice (some ⟨m, k, none⟩) len cap) (hi : ev i = .int kk n) (hn : n = j) (hj : j < len) (hs : sl t = some e) (ht : ty e = some (ag, z)) :
    vex ev h (.indexAddr t x i) = some (.val (.pointer (some ⟨m, k + j * z.length, none⟩))) := by
  subst hn
  simp only [vex, hx, hi, hs, ht, vindex]
  rw [if_pos ⟨by omega, by omega⟩]
  rfl
theorem vex_ixa {t : Nat} {x i : Operand} {m k len : Nat} {kk : IntKind} {n : Int} {j e : Nat} {ag : Bool} {z : List Value} (hx : ev x = .pointer (some ⟨m, k, none⟩)) (hi : ev i = .int kk n) (hn : n = j) (hj : j < len) (hs : arr t = some (len, e)) (ht : ty e = some (ag, z)) :
    vex ev h (.indexAddr t x i) = some (.val (.pointer (some ⟨m, k + j * z.length, none⟩))) := by
  subst hn
  simp only [vex, hx, hi, hs, ht, vindex]
  rw [if_pos ⟨by omega, by omega⟩]
  rfl
theorem vex_ixv {t : Nat} {x i : Operand} {cs : Array Value} {len : Nat} {kk : IntKind} {n : Int} {j e : Nat} {z : List Value} {v : Value} (hx : ev x = .agg cs) (hi : ev i = .int kk n) (hn : n = j) (hj : j < len) (hs : arr t = some (len, e)) (ht : ty e = some (false, z)) (hv : cs.toList[j]? = some v) :
    vex ev h (.index t x i) = some (.val v) := by
  subst hn
  simp only [vex, hx, hi, hs, ht]
  rw [if_pos ⟨by omega, by omega⟩]
  simp [hv] at *
theorem vex_ld1 {t : Nat} {x : Operand} {m k k' : Nat} {c : List Value} {tt : Nat} {own : Bool} {z : List Value} {v : Value} (hx : ev x = .pointer (some ⟨m, k, none⟩)) (hk : k = k') (hh : h m = some (.cells c tt own)) (ht : ty t = some (false, z)) (hv : c[k']? = some v) :
    vex ev h (.load t x) = some (.rd m v) := by
  subst hk
  simp only [vex, hx, ht, hh, partAt, hv]
  rfl
theorem vex_ldn {t : Nat} {x : Operand} {m k k' : Nat} {c : List Value} {tt : Nat} {own : Bool} {z : List Value} (hx : ev x = .pointer (some ⟨m, k, none⟩)) (hk : k = k') (hh : h m = some (.cells c tt own)) (ht : ty t = some (true, z)) (hv : k' + z.length ≤ c.length) :
    vex ev h (.load t x) = some (.rd m (.agg ((c.drop k').take z.length).toArray)) := by
  subst hk
  simp only [vex, hx, ht, hh, partAt]
  split
  · rename_i hc
    obtain ⟨rfl, hc⟩ := hc
    simp only [Option.map_some, Option.some.injEq, Ef.rd.injEq, true_and]
    rw [List.drop_zero, ← hc, List.take_length]
  · rfl
theorem vex_st1 {t : Nat} {x y : Operand} {m k k' : Nat} {c : List Value} {tt : Nat} {ag : Bool} {z : List Value} {v : Value} (hx : ev x = .pointer (some ⟨m, k, none⟩)) (hk : k = k') (hh : h m = some (.cells c tt true)) (ht : ty t = some (ag, z)) (hz : z.length = 1) (hv : ev y = v) (ho : v.oneCell' = true) (hna : ∀ a, v ≠ .agg a) (hl : k' < c.length) :
    vex ev h (.store t x y) = some (.set m (.cells (c.set k' v) tt true)) := by
  subst hk hv
  simp only [vex, hx, ht, hh]
  rw [setAt_one hz ho hna hl]
  rfl
end

/-! ### What a Go result of two words and an error means -/
def wd (v : Nat) : Value := .agg #[.int .u64 ((v / 2 ^ 64 : Nat) : Int), .int .u64 ((v % 2 ^ 64 : Nat) : Int)]
def err (b : Bool) : Value := .int .i64 (if b then 1 else 0)

end Go.Proofs.Ytdfkcijholopoaa.Vm
