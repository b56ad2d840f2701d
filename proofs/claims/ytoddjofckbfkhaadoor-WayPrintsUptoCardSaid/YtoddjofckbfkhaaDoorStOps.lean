/- Steps loaded, stored, made. -/
import Derived.Test.YtoddjofckbfkhaaDoorSts
import Derived.Test.YtoddjofckbfkhaaDoorPl
namespace Go.Proofs.YtoddjofckbfkhaaDoor.Wy
open Go.RowKit Mem Ops
section
variable {ops : Array Oper} {rest : List Oper} {a : Act} {w : World} {Q : Exit → Act → World → Prop} {dst : Option Tmp} {ty : TypeId} {pos : String} {aft : Array Edge} {gd : Option (Nat × Bool)}
theorem size29 : (Tryd.prog.info? 59).map (·.size) = some 3 := by kernel_rfl
theorem rl_load_st {x : Operand} {b o : Nat} {s : St} (hr : w.rangeAt b o s.cells) (hx : a.eval x = .pointer (some ⟨b, o, none⟩)) :
    (execOp a.eval ⟨dst, .load 59 x, ty, pos, aft, gd⟩).run Tryd.prog w = .ok (.value (.agg s.cells.toArray)) w := by
  have := run_loadVar_mid (P := Tryd.prog) w b o 59 s.cells _ hr Tryd.underlying59 rfl (by rw [size29]; rfl)
  simp [execOp, hx, Instr.loadAt, Instr.sureAddr]
  rw [this]; rfl
theorem pl_load_st {x : Operand} {b o : Nat} {s : St} (hr : w.rangeAt b o s.cells) (hw : Region.wanted ⟨dst, .load 59 x, ty, pos, aft, gd⟩ (yielded ops a.tmps) = true)
    (hx : a.eval x = .pointer (some ⟨b, o, none⟩)) (hk : wpList Tryd.prog ops Q rest (a.put dst (.agg s.cells.toArray)) w) : wpList Tryd.prog ops Q (⟨dst, .load 59 x, ty, pos, aft, gd⟩ :: rest) a w :=
  pl_value hw (rl_load_st hr hx) hk
theorem pl_store_st {x y : Operand} {b : Nat} {o s : St} {T : TypeId} (hb : Blk w b o.cells.toArray T) (hw : Region.wanted ⟨dst, .store 59 x y, ty, pos, aft, gd⟩ (yielded ops a.tmps) = true)
    (ex : a.eval x = .pointer (some ⟨b, 0, none⟩)) (ey : a.eval y = .agg s.cells.toArray) (h : wpList Tryd.prog ops Q rest (a.put dst undef) (w.setRow b s.cells.toArray)) :
    wpList Tryd.prog ops Q (⟨dst, .store 59 x y, ty, pos, aft, gd⟩ :: rest) a w :=
  pl_unit hw (rl_store_row ex ey hb (by rw [size29]; rfl) rfl (by simp [St.cells, Value.oneCell'])) h
theorem zero29 : (Tryd.prog.info? 59).map (fun i => (i.zero, i.size)) = some (some (.agg st0.cells.toArray), 3) := by kernel_rfl
theorem pl_alloc_st (hw : Region.wanted ⟨dst, .alloc 59, ty, pos, aft, gd⟩ (yielded ops a.tmps) = true)
    (h : wpList Tryd.prog ops Q rest (a.put dst (.pointer (some ⟨w.heap.size, 0, none⟩))) (w.alloc (.cells st0.cells.toArray 59))) : wpList Tryd.prog ops Q (⟨dst, .alloc 59, ty, pos, aft, gd⟩ :: rest) a w :=
  pl_value hw (rl_alloc (zeroIs_of_info zero29)) h
end
end Go.Proofs.YtoddjofckbfkhaaDoor.Wy
