/- A number's digits, as a list; how a text of digits is read. -/
import Derived.Test.YtdfkcijholopoaaSb
import Derived.Laws.RangeString
import Derived.Laws.Strings
import Derived.Test.YtdfkcijholopoaaVm23
namespace Go.Proofs.Ytdfkcijholopoaa.Vm
open Go Go.RowKit
set_option linter.unusedSimpArgs false

def bs (l : List Nat) : ByteArray := ⟨(l.map fun n => UInt8.ofNat (48 + n)).toArray⟩
def dl : Nat → Nat → List Nat
  | 0, _ => []
  | f + 1, v => if v / 10 = 0 then [v % 10] else dl f (v / 10) ++ [v % 10]
theorem bs_append (a b : List Nat) : bs a ++ bs b = bs (a ++ b) := by
  apply ByteArray.ext
  rw [ByteArray.data_append]
  simp [bs]
theorem dgs_bs (f v : Nat) : dgs f v = bs (dl f v) := by
  induction f generalizing v with
  | zero => rfl
  | succ f ih =>
    unfold dgs dl
    split
    · rfl
    · rw [ih, ← bs_append]; rfl
theorem dl_lt (f v : Nat) : ∀ d ∈ dl f v, d < 10 := by
  induction f generalizing v with
  | zero => intro d h; cases h
  | succ f ih =>
    intro d h
    unfold dl at h
    split at h
    · simp at h; omega
    · rcases List.mem_append.1 h with h | h
      · exact ih _ d h
      · simp at h; omega
theorem dl_len (f v : Nat) : (dl f v).length ≤ f := by
  induction f generalizing v with
  | zero => exact Nat.le_refl 0
  | succ f ih =>
    unfold dl
    split
    · simp
    · have := ih (v / 10); simp; omega
theorem dl_pos (f v : Nat) : 0 < (dl (f + 1) v).length := by
  unfold dl; split <;> simp
theorem dl_head (f v : Nat) (h : v < 10 ^ f) (h1 : 1 < (dl f v).length) : (dl f v)[0]? ≠ some 0 := by
  induction f generalizing v with
  | zero => simp [dl] at h1
  | succ f ih =>
    unfold dl at h1 ⊢
    split
    · rename_i h0; rw [if_pos h0] at h1; simp at h1
    · rename_i h0
      rw [if_neg h0] at h1
      have hf : v / 10 < 10 ^ f := by rw [Nat.pow_succ] at h; omega
      cases f with
      | zero => simp at hf; omega
      | succ f =>
        rw [List.getElem?_append_left (dl_pos f _)]
        by_cases h2 : 1 < (dl (f + 1) (v / 10)).length
        · exact ih _ hf h2
        · have hp := dl_pos f (v / 10)
          unfold dl at h2 ⊢
          split
          · simp; omega
          · rename_i h3
            rw [if_neg h3] at h2
            cases f with
            | zero => simp at hf; omega
            | succ f =>
              have := dl_pos f (v / 10 / 10)
              simp at h2
              rw [h2] at this
              exact absurd this (by simp)
def dv (l : List Nat) : Nat := l.foldl (fun a d => a * 10 + d) 0
theorem dv_snoc (l : List Nat) (d : Nat) : dv (l ++ [d]) = dv l * 10 + d := by simp [dv]
theorem dv_dl (f v : Nat) (h : v < 10 ^ f) : dv (dl f v) = v := by
  induction f generalizing v with
  | zero => simp at h; subst h; rfl
  | succ f ih =>
    unfold dl
    split
    · simp [dv]; omega
    · rw [dv_snoc, ih _ (by rw [Nat.pow_succ] at h; omega)]; omega
theorem dv_mono (l r : List Nat) : dv l ≤ dv (l ++ r) := by
  induction r generalizing l with
  | nil => simp
  | cons d r ih =>
    have h1 := ih (l ++ [d])
    rw [dv_snoc] at h1
    simp only [List.append_assoc, List.singleton_append] at h1
    omega
theorem dv_take_le (l : List Nat) (k : Nat) : dv (l.take k) ≤ dv l := by
  have := dv_mono (l.take k) (l.drop k)
  rwa [List.take_append_drop] at this
theorem dv_take_succ (l : List Nat) (k d : Nat) (h : l[k]? = some d) : dv (l.take (k + 1)) = dv (l.take k) * 10 + d := by
  rw [List.take_add_one, h]; exact dv_snoc _ _
theorem bs_size (l : List Nat) : (bs l).size = l.length := by show (bs l).data.size = _; simp [bs]
theorem bs_get (l : List Nat) (k : Nat) (d : Nat) (h : l[k]? = some d) (hd : d < 10) (hk : k < (bs l).size) : ((bs l)[k]'hk).toNat = 48 + d := by
  have h1 : (bs l)[k]'hk = UInt8.ofNat (48 + d) := by
    show (bs l).data[k]'hk = _
    have hk' : k < l.length := (List.getElem?_eq_some_iff.1 h).1
    have h2 := (List.getElem?_eq_some_iff.1 h).2
    simp [bs, h2]
  rw [h1]
  simp
  omega
theorem bs_decode (l : List Nat) (k d : Nat) (h : l[k]? = some d) (hd : d < 10) : Utf8.decode (bs l) k = (48 + d, 1) := by
  have hk : k < (bs l).size := by rw [bs_size]; exact (List.getElem?_eq_some_iff.1 h).1
  rw [decode_ascii _ _ hk (by rw [bs_get l k d h hd hk]; omega), bs_get l k d h hd hk]
theorem bs_ne (l : List Nat) (h : 0 < l.length) : ((bs l).toList == (ByteArray.toList ⟨#[]⟩)) = false := by
  rw [beq_eq_false_iff_ne]
  intro e
  have := congrArg List.length e
  rw [ByteArray.toList_eq, ByteArray.toList_eq] at this
  have h2 : l = [] := by simpa [bs] using this
  rw [h2] at h
  exact absurd h (by simp)
/-! ### steps -/
theorem ex_len9 {o : Oper} {x : Operand} {e : Operand → Value} {w : World} {a : ByteArray} (ho : o.op = .call { callee := .builtin .len, args := #[x], argTypes := #[9] }) (hx : e x = .string a) : (execOp e o).run P w = .ok (.value (.int .i64 a.size)) w := by
  simp only [execOp, ho, resolve, invoke, builtin, Sem.run_bind, Sem.run_pure, Result.andThen_ok, List.map_toArray, List.map_cons, List.map_nil, hx, Builtin.len_,
        List.getElem?_toArray, List.getElem?_cons_zero, run_underlying und9, goInt]
theorem ex_eql9 {o : Oper} {x y : Operand} {u : TypeId} {e : Operand → Value} {w : World} {a b : ByteArray} (ho : o.op = .binOp .eql 9 x y u) (hx : e x = .string a) (hy : e y = .string b) : (execOp e o).run P w = .ok (.value (.bool (a.toList == b.toList))) w := by
  simp only [execOp, ho, hx, hy, Sem.run_bind, Sem.run_pure, Result.andThen_ok, eqGuard, binOp, Op.stringOp, Op.equal]
  simp
theorem sp_nextd {o : Oper} {m k : Nat} {ev : Operand → Value} {h : Nat → Option Blk} {x : Operand} {s : ByteArray} {pos c wd : Nat} (hd : Utf8.decode s pos = (c, wd)) (ho : o.op = .next x true) (hx : ev x = .pointer (some ⟨k, 0, none⟩)) (hk : h k = some (.obj (.stringIter s pos))) (hp : pos < s.size) :
    SpOk o m ev h [k] (fun v u => v = .tuple #[.bool true, .int .i64 pos, .int .i32 c] ∧ u = [(k, .obj (.stringIter s (pos + wd)))]) := by
  have := sp_next (m := m) ho hx hk hp
  rw [hd] at this
  exact this
theorem ex_ix9 {o : Oper} {x y : Operand} {e : Operand → Value} {w : World} {a : ByteArray} {k : IntKind} {i : Nat} {b : UInt8} (ho : o.op = .index 9 x y) (hx : e x = .string a) (hy : e y = .int k i) (hb : a[i]? = some b) : (execOp e o).run P w = .ok (.value (.int .u8 b.toNat)) w := by
  simp only [execOp, ho, hx, hy, Instr.index, asIntOf, Sem.run_bind, Sem.run_pure, Result.andThen_ok, run_underlying und9]
  rw [if_pos (by omega)]
  simp [hb]
end Go.Proofs.Ytdfkcijholopoaa.Vm
