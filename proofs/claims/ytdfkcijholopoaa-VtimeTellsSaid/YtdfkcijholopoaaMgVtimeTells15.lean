/- What the proofs stand on, in one text: Qh. -/
import Derived.Test.YtdfkcijholopoaaMgVtimeTells14
namespace Go.Proofs.Ytdfkcijholopoaa.Vm
open Go Go.RowKit
set_option maxRecDepth 10000
set_option linter.unusedSimpArgs false
set_option linter.unusedVariables false

theorem vc_mid {B N : Nat} {c : Code} {Q : Exit → St → Prop} {s : St} (I : St → Prop) (h1 : VC (B := B) N c (fun e s' => e = .normal ∧ ∃ s2, Fg B s' s2 ∧ I s2) s) (h2 : ∀ s2, I s2 → Q .normal s2) : VC (B := B) N c Q s := by
  refine vc_post (h1.mono ?_)
  rintro e s' ⟨rfl, s2, h3, h4⟩
  exact ⟨s2, h3, h2 s2 h4⟩
/-- The cell of queue i in the row. -/
def cq (N : Nat → Bool) (Q : Nat → List Rn) (C : Nat → Nat) (i : Nat) : List Value := [idq (N i) (Q i) (i + 1) (C i)]
theorem cq_len (N : Nat → Bool) (Q : Nat → List Rn) (C : Nat → Nat) (i : Nat) : (cq N Q C i).length = 1 := rfl
theorem range_at {m i : Nat} (h : i < m) : (List.range m)[i]? = some i := List.getElem?_range h
theorem idq_bd {nil : Bool} {l : List Rn} {m c K : Nat} (h : m < K) : bdV K (idq nil l m c) = true := by
  cases nil <;> cases c <;> simp [idq, adr, bdV, h]
theorem row_bd {N : Nat → Bool} {Q : Nat → List Rn} {C : Nat → Nat} {K : Nat} : ∀ {l : List Nat}, (∀ i ∈ l, i + 1 < K) → bdL K (rws (cq N Q C) l) = true
  | [], _ => rfl
  | i :: l, h => by
    have ih := row_bd (N := N) (Q := Q) (C := C) (K := K) (l := l) fun k hk => h k (by simp [hk])
    have h1 := idq_bd (nil := N i) (l := Q i) (c := C i) (h i (by simp))
    simp only [rws, cq, List.cons_append, List.nil_append, bdL, h1, ih, Bool.and_self]
end Go.Proofs.Ytdfkcijholopoaa.Vm
