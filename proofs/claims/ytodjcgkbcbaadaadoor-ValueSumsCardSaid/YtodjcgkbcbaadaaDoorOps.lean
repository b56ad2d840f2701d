/- Steps of a plain region over whole arrays: made, loaded, indexed; bytes turned into a text. Over any program. -/
import Derived.Test.YtodjcgkbcbaadaaDoorMem
import Derived.Deep.WholeRow
import Derived.Deep.MidRow
import Derived.Laws.BytesArg
import Derived.Laws.Shifts
namespace Go.Proofs.YtodjcgkbcbaadaaDoor.Ops
open Go.RowKit Mem
section
variable {P : Program} {ops : Array Oper} {rest : List Oper} {a : Act} {w : World} {Q : Exit → Act → World → Prop} {dst : Option Tmp} {ty : TypeId} {pos : String} {aft : Array Edge}

theorem step_value {op : Op} {v : Value} {w' : World} (hr : (execOp a.eval ⟨dst, op, ty, pos, aft, none⟩).run P w = .ok (.value v) w')
    (h : wpList P ops Q rest (a.put dst v) w') : wpList P ops Q (⟨dst, op, ty, pos, aft, none⟩ :: rest) a w := by
  refine wpList_plain rfl fun K hK => ?_
  unfold Oper.wp
  rw [hr]
  exact hK _ _ h

/-- What a type's row of the table says of a new variable of it. -/
def ZeroIs (P : Program) (t : TypeId) (Z : Value) : Prop := ∀ w : World, (zeroValue t).run P w = .ok Z w
theorem zeroIs_of_info {t : TypeId} {v : Value} {n : Nat} (h : (P.info? t).map (fun i => (i.zero, i.size)) = some (some v, n)) : ZeroIs P t v := by
  intro w
  cases hq : P.info? t with
  | none => simp [hq] at h
  | some i =>
    simp [hq] at h
    simp [zeroValue, typeInfo, hq, h.1]

theorem step_alloc {t : TypeId} {Z : Value} (hz : ZeroIs P t Z)
    (h : wpList P ops Q rest (a.put dst (.pointer (some ⟨w.heap.size, 0, none⟩))) (w.alloc (.cells Z.cells t))) :
    wpList P ops Q (⟨dst, .alloc t, ty, pos, aft, none⟩ :: rest) a w := by
  refine step_value ?_ h
  simp [execOp, Instr.alloc, hz w, newVar, newRow]

theorem step_box {t : TypeId} {x : Operand} {v : Value} (hx : a.eval x = v)
    (h : wpList P ops Q rest (a.put dst (.pointer (some ⟨w.heap.size, 0, none⟩))) (w.alloc (.cells v.cells t))) :
    wpList P ops Q (⟨dst, .box t x, ty, pos, aft, none⟩ :: rest) a w := by
  refine step_value ?_ h
  simp [execOp, Instr.box, hx, newVar, newRow]

/-- A variable of an aggregate type, read whole out of its block. -/
theorem step_load_agg {t e : TypeId} {n : Nat} {x : Operand} {b off : Nat} {cs C : Array Value} {T : TypeId} {fr : Nat × Nat} (hx : a.eval x = .pointer (some ⟨b, off, none⟩))
    (hb : w.heap[b]? = some (.cells C T fr)) (hu : P.underlying t = some (.array n e)) (hi : (P.info? t).map (·.size) = some n) (hcs : C.extract off (off + n) = cs) (hsz : off + n ≤ C.size)
    (h : wpList P ops Q rest (a.put dst (.agg cs)) w) :
    wpList P ops Q (⟨dst, .load t x, ty, pos, aft, none⟩ :: rest) a w := by
  have hr := World.rangeAt_of_block hb off n
  rw [hcs] at hr
  have hl : cs.toList.length = n := by rw [← hcs]; simp; omega
  refine wpList_load_mid (b := b) (o := off) (cs := cs.toList) rfl t x rfl hx (d := .array n e) hr hu rfl (by rw [hi, hl]) ?_
  simpa using h

theorem run_index_arr {t e : TypeId} {n : Nat} {k : IntKind} {i : Nat} {cs : Array Value} {v : Value} (hu : P.underlying t = some (.array n e)) (hs : (P.info? e).map (·.size) = some 1) (hg : (isAgg e).run P w = .ok false w)
    (hi : i < n) (hv : cs[i]? = some v) : (Instr.index t (.agg cs) (.int k i)).run P w = .ok v w := by
  cases hq : P.info? e with
  | none => simp [hq] at hs
  | some inf =>
    have hs' : inf.size = 1 := by simpa [hq] using hs
    simp [Instr.index, asIntOf, run_underlying hu, part, sizeOf, typeInfo, hq, hs', hg, hi, hv]
theorem step_index_arr {t e : TypeId} {n : Nat} {k : IntKind} {i : Nat} {x y : Operand} {cs : Array Value} {v : Value} (hu : P.underlying t = some (.array n e)) (hs : (P.info? e).map (·.size) = some 1) (hg : ∀ w : World, (isAgg e).run P w = .ok false w)
    (hx : a.eval x = .agg cs) (hy : a.eval y = .int k i) (hi : i < n) (hv : cs[i]? = some v) (h : wpList P ops Q rest (a.put dst v) w) :
    wpList P ops Q (⟨dst, .index t x y, ty, pos, aft, none⟩ :: rest) a w := by
  refine step_value ?_ h
  simp [execOp, hx, hy, run_index_arr (k := k) hu hs (hg w) hi hv]

end
end Go.Proofs.YtodjcgkbcbaadaaDoor.Ops
