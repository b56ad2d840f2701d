/- A load of one cell, a slice of three numbers built. Over any program. -/
import Derived.Test.YtoddjofckbfkhaaAh
namespace Go.Proofs.Ytoddjofckbfkhaa.Ops
open Go.RowKit Mem
section
variable {P : Program} {a : Act} {w : World} {dst : Option Tmp} {ty : TypeId} {pos : String} {aft : Array Edge} {gd : Option (Nat × Bool)}
theorem rl_load1 {t : TypeId} {x : Operand} {b o : Nat} {v : Value} (ht : ∀ w, (isAgg t).run P w = .ok false w) (hx : a.eval x = .pointer (some ⟨b, o, none⟩)) (hc : w.cell? ⟨b, o, none⟩ = some v) :
    (execOp a.eval ⟨dst, .load t x, ty, pos, aft, gd⟩).run P w = .ok (.value v) w := by
  simp [execOp, hx, Instr.loadAt, Instr.sureAddr, loadVar, ht, hc]
theorem rl_build3 {t e : TypeId} {x y z : Operand} {a1 a2 a3 : Int} (ht : P.underlying t = some (.slice e)) (hs : (P.info? e).map (fun i => (i.zero, i.size)) = some (some (.int .i64 0), 1))
    (hx : a.eval x = .int .i64 a1) (hy : a.eval y = .int .i64 a2) (hz : a.eval z = .int .i64 a3) :
    (execOp a.eval ⟨dst, .buildSlice t 3 #[(0, x), (1, y), (2, z)], ty, pos, aft, gd⟩).run P w = .ok (.value (.slice (some ⟨w.heap.size, 0, none⟩) 3 3)) (w.alloc (.cells #[.int .i64 a1, .int .i64 a2, .int .i64 a3] e)) := by
  obtain ⟨i, hi⟩ : ∃ i, P.info? e = some i := by
    cases hq : P.info? e with
    | none => simp [hq] at hs
    | some i => exact ⟨i, rfl⟩
  rw [hi] at hs
  simp at hs
  simp [execOp, hx, hy, hz, Instr.buildSlice, run_underlying ht, sizeOf, typeInfo, hi, hs.2, hs.1, zeroValue, Value.cells, Instr.fill, newRow]
  have e3 : Array.range 3 = #[0, 1, 2] := by decide
  rw [e3]
  simp
end
end Go.Proofs.Ytoddjofckbfkhaa.Ops
