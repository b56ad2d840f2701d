/- Equality of steps by value. -/
import Derived.Test.YtoddjofckbfkhaaDoorStOps
import Derived.Laws.StructEq
namespace Go.Proofs.YtoddjofckbfkhaaDoor.Wy
open Go.RowKit Mem Ops
def eqSt (s t : St) : Bool := s.kind == t.kind && (s.key.toList == t.key.toList && s.num == t.num)
theorem guard29 : Tryd.prog.eqGuardType Tryd.prog.depth 59 = false := by kernel_rfl
theorem run_equal_st (s t : St) (d : Nat) (w : World) : (Op.equalIn (d + 2) 59 (.agg s.cells.toArray) (.agg t.cells.toArray)).run Tryd.prog w = .ok (eqSt s t) w := by
  simp [go_sem, St.cells, Op.eqFields, Program.fieldsOf, Tryd.underlying59, Tryd.underlying57, Tryd.underlying9, Tryd.underlying3]
  by_cases h1 : s.kind = t.kind <;> by_cases h2 : s.key.toList = t.key.toList <;> by_cases h3 : s.num = t.num <;> simp [eqSt, h1, h2, h3]
section
variable {ops : Array Oper} {rest : List Oper} {a : Act} {w : World} {dst : Option Tmp} {ty : TypeId} {pos : String} {aft : Array Edge} {gd : Option (Nat × Bool)}
theorem rl_neq_st {yt : TypeId} {x y : Operand} {r : Bool} (s t : St) (hr : (!(eqSt s t)) = r) (ex : a.eval x = .agg s.cells.toArray) (ey : a.eval y = .agg t.cells.toArray) :
    (execOp a.eval ⟨dst, .binOp .neq 59 x y yt, ty, pos, aft, gd⟩).run Tryd.prog w = .ok (.value (.bool r)) w := by
  subst hr
  simp only [execOp, ex, ey, Sem.run_bind, run_eqGuard_agg (P := Tryd.prog) w .neq 59 x y _ _ guard29, Result.andThen_ok, run_neq_struct, run_equal_st s t 9998 w, Sem.run_pure]
theorem rl_eql_st {yt : TypeId} {x y : Operand} {r : Bool} (s t : St) (hr : eqSt s t = r) (ex : a.eval x = .agg s.cells.toArray) (ey : a.eval y = .agg t.cells.toArray) :
    (execOp a.eval ⟨dst, .binOp .eql 59 x y yt, ty, pos, aft, gd⟩).run Tryd.prog w = .ok (.value (.bool r)) w := by
  subst hr
  simp only [execOp, ex, ey, Sem.run_bind, run_eqGuard_agg (P := Tryd.prog) w .eql 59 x y _ _ guard29, Result.andThen_ok, run_eql_struct, run_equal_st s t 9998 w, Sem.run_pure]
theorem qs_neq_st {C : World → Prop} {Q : Act → Prop} {yt : TypeId} {x y : Operand} {r : Bool} (s t : St) (hr : (!(eqSt s t)) = r) (hw : Region.wanted ⟨dst, .binOp .neq 59 x y yt, ty, pos, aft, gd⟩ (yielded ops a.tmps) = true)
    (ex : a.eval x = .agg s.cells.toArray) (ey : a.eval y = .agg t.cells.toArray) (h : wpQuiet Tryd.prog ops C Q rest (a.put dst (.bool r))) : wpQuiet Tryd.prog ops C Q (⟨dst, .binOp .neq 59 x y yt, ty, pos, aft, gd⟩ :: rest) a :=
  qs_value hw (fun _ _ => rl_neq_st s t hr ex ey) h
theorem qs_load_st {Q : Act → Prop} {x : Operand} {w0 : World} {b o : Nat} {s : St} (hr : w0.rangeAt b o s.cells) (hb : b < w0.heap.size) (hw : Region.wanted ⟨dst, .load 59 x, ty, pos, aft, gd⟩ (yielded ops a.tmps) = true)
    (hx : a.eval x = .pointer (some ⟨b, o, none⟩)) (hk : wpQuiet Tryd.prog ops (Ext w0) Q rest (a.put dst (.agg s.cells.toArray))) : wpQuiet Tryd.prog ops (Ext w0) Q (⟨dst, .load 59 x, ty, pos, aft, gd⟩ :: rest) a :=
  qs_value hw (fun _ hw => rl_load_st (rangeAt_below hr hw hb) hx) hk
end
end Go.Proofs.YtoddjofckbfkhaaDoor.Wy
