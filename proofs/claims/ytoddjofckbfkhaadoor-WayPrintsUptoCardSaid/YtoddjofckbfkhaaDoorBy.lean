/- Rows of bytes of the call's own: literals, texts appended. Over any program. -/
import Derived.Test.YtoddjofckbfkhaaDoorApp
import Derived.Lib.AppendStr
namespace Go.Proofs.YtoddjofckbfkhaaDoor.Ops
open Go.RowKit Mem
section
variable {P : Program}
theorem strCells_u (s : ByteArray) : Lib.strCells s = bytesU s.data.toList := by
  simp [Lib.strCells, bytesU]
theorem one_bytes (l : List UInt8) : ∀ u ∈ bytesU l, u.oneCell' = true := by
  intro u hu
  obtain ⟨c, _, rfl⟩ := List.mem_map.1 hu
  rfl
/-- A new row of bytes. -/
theorem new_bytes (w : World) (l : List UInt8) (T : TypeId) : Row (w.alloc (.cells (bytesU l).toArray T)) (some ⟨w.heap.size, 0, none⟩) (bytesU l) :=
  (Blk.new w _ T).row 0 (fun i v hi => by rw [Nat.zero_add]; simpa using hi)
theorem own_new {w : World} {base : Nat} (l : List UInt8) {e : TypeId} (hb : base ≤ w.heap.size) (hl : l.length ≤ 9223372036854775807) : (w.alloc (.cells (bytesU l).toArray e)).ownsRow base e 1 (.slice (some ⟨w.heap.size, 0, none⟩) l.length l.length) l.length (bytesU l) :=
  ⟨by simp, .inr ⟨w.heap.size, l.length, (bytesU l).toArray, rfl, hb, (Blk.new w _ e), Nat.le_refl _, by unfold maxLen; omega, by simp, by simp [List.take_of_length_le]⟩⟩
end
section
variable {P : Program} {ops : Array Oper} {rest : List Oper} {a : Act} {w : World} {Q : Exit → Act → World → Prop} {dst : Option Tmp} {ty : TypeId} {pos : String} {aft : Array Edge} {gd : Option (Nat × Bool)}
theorem rl_lit_b1 {t e : TypeId} {x : Operand} {c : UInt8} (ht : P.underlying t = some (.slice e)) (he : ElemIs P e (.int .u8 0) 1 1) (hx : a.eval x = .int .u8 (c.toNat : Int)) :
    (execOp a.eval ⟨dst, .buildSlice t 1 #[(0, x)], ty, pos, aft, gd⟩).run P w = .ok (.value (.slice (some ⟨w.heap.size, 0, none⟩) 1 1)) (w.alloc (.cells (bytesU [c]).toArray e)) := by
  obtain ⟨i, hi, h2⟩ := Option.map_eq_some_iff.1 he.1
  simp at h2
  have e1 : Array.range 1 = #[0] := by decide
  simp [execOp, hx, e1, Instr.buildSlice, run_underlying ht, sizeOf, typeInfo, hi, h2, zeroValue, Value.cells, Instr.fill, newRow, bytesU]
theorem rl_lit_b2 {t e : TypeId} {x y : Operand} {c d : UInt8} (ht : P.underlying t = some (.slice e)) (he : ElemIs P e (.int .u8 0) 1 1) (hx : a.eval x = .int .u8 (c.toNat : Int)) (hy : a.eval y = .int .u8 (d.toNat : Int)) :
    (execOp a.eval ⟨dst, .buildSlice t 2 #[(0, x), (1, y)], ty, pos, aft, gd⟩).run P w = .ok (.value (.slice (some ⟨w.heap.size, 0, none⟩) 2 2)) (w.alloc (.cells (bytesU [c, d]).toArray e)) := by
  obtain ⟨i, hi, h2⟩ := Option.map_eq_some_iff.1 he.1
  simp at h2
  have e2 : Array.range 2 = #[0, 1] := by decide
  simp [execOp, hx, hy, Instr.buildSlice, run_underlying ht, sizeOf, typeInfo, hi, h2, zeroValue, Value.cells, Instr.fill, newRow, bytesU, e2]
theorem pl_lit_b1 {t e : TypeId} {x : Operand} (c : UInt8) (ht : P.underlying t = some (.slice e)) (he : ElemIs P e (.int .u8 0) 1 1) (hw : Region.wanted ⟨dst, .buildSlice t 1 #[(0, x)], ty, pos, aft, gd⟩ (yielded ops a.tmps) = true) (hx : a.eval x = .int .u8 (c.toNat : Int))
    (h : wpList P ops Q rest (a.put dst (.slice (some ⟨w.heap.size, 0, none⟩) 1 1)) (w.alloc (.cells (bytesU [c]).toArray e))) : wpList P ops Q (⟨dst, .buildSlice t 1 #[(0, x)], ty, pos, aft, gd⟩ :: rest) a w := pl_value hw (rl_lit_b1 ht he hx) h
theorem pl_lit_b2 {t e : TypeId} {x y : Operand} (c d : UInt8) (ht : P.underlying t = some (.slice e)) (he : ElemIs P e (.int .u8 0) 1 1) (hw : Region.wanted ⟨dst, .buildSlice t 2 #[(0, x), (1, y)], ty, pos, aft, gd⟩ (yielded ops a.tmps) = true) (hx : a.eval x = .int .u8 (c.toNat : Int)) (hy : a.eval y = .int .u8 (d.toNat : Int))
    (h : wpList P ops Q rest (a.put dst (.slice (some ⟨w.heap.size, 0, none⟩) 2 2)) (w.alloc (.cells (bytesU [c, d]).toArray e))) : wpList P ops Q (⟨dst, .buildSlice t 2 #[(0, x), (1, y)], ty, pos, aft, gd⟩ :: rest) a w := pl_value hw (rl_lit_b2 ht he hx hy) h
theorem pl_append_str {w0 : World} (base : Nat) {t u e : TypeId} {x y : Operand} {v : Value} {n : Nat} {xs : List Value} (s : ByteArray) (ht : P.underlying t = some (.slice e)) (hu : P.underlying u = some .string) (he : ElemIs P e (.int .u8 0) 1 1)
    (hown : w.ownsRow base e 1 v n xs) (hle : n + s.size ≤ 140737488355328) (hB : Below base w0 w) (hbase : base ≤ w.heap.size)
    (hw : Region.wanted ⟨dst, .call ⟨.builtin .append, #[x, y], #[t, u]⟩, ty, pos, aft, gd⟩ (yielded ops a.tmps) = true) (ex : a.eval x = v) (ey : a.eval y = .string s)
    (h : ∀ v1 w1, w1.ownsRow base e 1 v1 (n + s.size) (xs ++ bytesU s.data.toList) → Below base w0 w1 → w.grownBy w1 v.ownBlock → wpList P ops Q rest (a.put dst v1) w1) :
    wpList P ops Q (⟨dst, .call ⟨.builtin .append, #[x, y], #[t, u]⟩, ty, pos, aft, gd⟩ :: rest) a w := by
  refine wpList_step fun K hK => ?_
  rw [if_pos hw]
  obtain ⟨i, hi, h2⟩ := Option.map_eq_some_iff.1 he.1
  simp at h2
  obtain ⟨v1, w1, hr, h3, h4, _⟩ := Lib.run_append_own_string (P := P) w base t u ty e i ht hu hi h2.1 h2.2.1 h2.2.2 v n xs hown s (by unfold maxLen; omega) hle hbase
  rw [strCells_u] at h3
  unfold Oper.wp execOp
  simp only [resolve, invoke, builtin, Sem.run_bind, Sem.run_pure, Result.andThen_ok, List.map_toArray, List.map_cons, List.map_nil, ex, ey, hr]
  have hlt := hown.lt
  exact hK _ _ (h v1 w1 h3 (hB.grown h4 hbase (fun k hk => (hlt k hk).1)) h4)
end
end Go.Proofs.YtoddjofckbfkhaaDoor.Ops
