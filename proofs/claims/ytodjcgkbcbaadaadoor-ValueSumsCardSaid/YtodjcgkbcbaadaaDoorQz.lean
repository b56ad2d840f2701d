/- Regions that draw their order, whose operations read what was there and whose calls make new memory alone: one walk in the text's order; steps one by one. Over any program. -/
import Derived.Test.YtodjcgkbcbaadaaDoorArr
import Derived.Deep.Quiet
namespace Go.Proofs.YtodjcgkbcbaadaaDoor.Ops
open Go.RowKit Mem

/-- What a region leaves: nothing that was there has turned. -/
abbrev Ext (w : World) : World → Prop := fun w' => Below w.heap.size w w'
theorem Ext.drawn (w : World) : Ext w { w with drawn := w.drawn + 1 } := (Below.refl _ w).drew
theorem Ext.next {w w1 w2 : World} (h : Ext w w1) (k : Below w1.heap.size w1 w2) : Ext w w2 := h.trans (k.mono h.size)

section
variable {P : Program} {ops : Array Oper} {rest : List Oper} {a : Act} {C : World → Prop} {Q : Act → Prop} {dst : Option Tmp} {ty : TypeId} {pos : String} {aft : Array Edge} {gd : Option (Nat × Bool)}

theorem region_grown {id : Nat} {Q : Exit → Act → World → Prop} {a : Act} {w : World} {l : List Oper} (hm : P.follows .mixedOrders = true) (hB : Region.lexB .any l.toArray = true)
    (h : wpQuiet P l.toArray (Ext w) (fun a' => ∀ w', Ext w w' → Q .normal a' w') l a) : (Code.region id l.toArray true).wp P Q a w :=
  wp_region_quiet (C := Ext w) hm hB (Ext.drawn w) (by simpa using h)

theorem qs_skip {o : Oper} (hw : Region.wanted o (yielded ops a.tmps) = false) (h : wpQuiet P ops C Q rest (a.put o.dst undef)) : wpQuiet P ops C Q (o :: rest) a :=
  wpQuiet_step fun K hK => by rw [if_neg (by rw [hw]; exact Bool.false_ne_true)]; exact hK _ h
theorem qs_value {op : Op} {v : Value} (hw : Region.wanted ⟨dst, op, ty, pos, aft, gd⟩ (yielded ops a.tmps) = true)
    (hr : ∀ w, C w → (execOp a.eval ⟨dst, op, ty, pos, aft, gd⟩).run P w = .ok (.value v) w) (h : wpQuiet P ops C Q rest (a.put dst v)) : wpQuiet P ops C Q (⟨dst, op, ty, pos, aft, gd⟩ :: rest) a :=
  wpQuiet_step fun K hK => by
    rw [if_pos hw]
    exact ⟨v, fun w hw => by unfold Oper.quietAt; rw [hr w hw]; exact ⟨rfl, rfl⟩, hK _ h⟩
/-- A function of the program's own text. -/
structure IsFn (P : Program) (f : FuncId) (fn : Func) : Prop where
  at_ : P.funcs[f]? = some fn
  name : (fn.name == "runtime.NumGoroutine") = false
  body : fn.body.isNone = false
theorem run_fn {f : FuncId} {fn : Func} (h : IsFn P f fn) (vs : Array Value) (w : World) : (callFunc f vs).run P w = .ok (.enter f vs) w := by
  have hn : ¬ fn.name = "runtime.NumGoroutine" := by have := h.name; simpa using this
  have hb : ¬ fn.body = none := fun k => by have := h.body; rw [k] at this; cases this
  simp [callFunc, h.at_, hn, hb]
theorem run_call_fn {f : FuncId} {fn : Func} (h : IsFn P f fn) {args : Array Operand} {tys : Array TypeId} {vs : Array Value} (hv : args.map a.eval = vs) (w : World) :
    (execOp a.eval ⟨dst, .call ⟨.value (.func f), args, tys⟩, ty, pos, aft, gd⟩).run P w = .ok (.enter f vs) w := by
  subst hv
  have hf := run_fn h (args.map a.eval) w
  simp [execOp, resolve, Act.eval, Deferred.ofValue, invoke]
  simpa using hf
theorem qs_call {f : FuncId} {fn : Func} {args : Array Operand} {tys : Array TypeId} {vs : Array Value} {v : Value} (hfn : IsFn P f fn) (hw : Region.wanted ⟨dst, .call ⟨.value (.func f), args, tys⟩, ty, pos, aft, gd⟩ (yielded ops a.tmps) = true)
    (hv : args.map a.eval = vs) (hc : ∀ w, C w → Calls P f vs w fun e w' => e = .returned v ∧ C w') (h : wpQuiet P ops C Q rest (a.put dst v)) :
    wpQuiet P ops C Q (⟨dst, .call ⟨.value (.func f), args, tys⟩, ty, pos, aft, gd⟩ :: rest) a :=
  wpQuiet_step fun K hK => by
    rw [if_pos hw]
    exact ⟨v, fun w hw => by unfold Oper.quietAt; rw [run_call_fn hfn hv w]; exact ⟨rfl, hc w hw⟩, hK _ h⟩
theorem qs_move {x : Operand} {v : Value} (hw : Region.wanted ⟨dst, .move x, ty, pos, aft, gd⟩ (yielded ops a.tmps) = true) (hx : a.eval x = v)
    (h : wpQuiet P ops C Q rest (a.put dst v)) : wpQuiet P ops C Q (⟨dst, .move x, ty, pos, aft, gd⟩ :: rest) a :=
  qs_value hw (fun w _ => by simp [execOp, hx]) h
theorem qs_assign {x : Operand} {v : Value} (hw : Region.wanted ⟨dst, .assign x, ty, pos, aft, gd⟩ (yielded ops a.tmps) = true) (hx : a.eval x = v)
    (h : wpQuiet P ops C Q rest (a.put dst v)) : wpQuiet P ops C Q (⟨dst, .assign x, ty, pos, aft, gd⟩ :: rest) a :=
  qs_value hw (fun w _ => by simp [execOp, hx]) h
theorem qs_pick {c x y : Operand} {b : Bool} {v : Value} (hw : Region.wanted ⟨dst, .pick c x y, ty, pos, aft, gd⟩ (yielded ops a.tmps) = true) (hc : a.eval c = .bool b) (hv : a.eval (if b then x else y) = v)
    (h : wpQuiet P ops C Q rest (a.put dst v)) : wpQuiet P ops C Q (⟨dst, .pick c x y, ty, pos, aft, gd⟩ :: rest) a :=
  qs_value hw (fun w _ => by cases b <;> simp_all [execOp, asBool]) h
theorem qs_extract {x : Operand} {i : Nat} {vs : Array Value} {v : Value} (hw : Region.wanted ⟨dst, .extract x i, ty, pos, aft, gd⟩ (yielded ops a.tmps) = true) (hx : a.eval x = .tuple vs) (hv : vs[i]? = some v)
    (h : wpQuiet P ops C Q rest (a.put dst v)) : wpQuiet P ops C Q (⟨dst, .extract x i, ty, pos, aft, gd⟩ :: rest) a :=
  qs_value hw (fun w _ => by simp [execOp, Instr.extract, hx, hv]) h
theorem qs_load_arr {t e : TypeId} {n : Nat} {x : Operand} {w0 : World} {b : Nat} {cs : Array Value} {T : TypeId} (hw : Region.wanted ⟨dst, .load t x, ty, pos, aft, gd⟩ (yielded ops a.tmps) = true) (ha : ArrTy P t e n) (hb : Blk w0 b cs T)
    (hx : a.eval x = .pointer (some ⟨b, 0, none⟩)) (hn : cs.size = n) (h : wpQuiet P ops (Ext w0) Q rest (a.put dst (.agg cs))) : wpQuiet P ops (Ext w0) Q (⟨dst, .load t x, ty, pos, aft, gd⟩ :: rest) a :=
  qs_value hw (fun w hw => by
    have hg : w.heap[b]? = some (.cells cs T (0, 0)) := hb.below hw hb.lt
    simp only [execOp, hx, Instr.loadAt, Instr.sureAddr, Sem.run_bind, Sem.run_pure, Result.andThen_ok, run_loadVar_row w b T t cs (0, 0) _ hg ha.arr rfl (by rw [ha.size, hn])]) h
theorem qs_eql_str {t yt : TypeId} {x y : Operand} {s u : ByteArray} {r : Bool} (hw : Region.wanted ⟨dst, .binOp .eql t x y yt, ty, pos, aft, gd⟩ (yielded ops a.tmps) = true) (hx : a.eval x = .string s) (hy : a.eval y = .string u) (hr : (s.toList == u.toList) = r)
    (h : wpQuiet P ops C Q rest (a.put dst (.bool r))) : wpQuiet P ops C Q (⟨dst, .binOp .eql t x y yt, ty, pos, aft, gd⟩ :: rest) a :=
  qs_value hw (fun w _ => by simp [execOp, hx, hy, eqGuard, binOp, Op.stringOp, hr]) h
theorem qs_neq_str {t yt : TypeId} {x y : Operand} {s u : ByteArray} {r : Bool} (hw : Region.wanted ⟨dst, .binOp .neq t x y yt, ty, pos, aft, gd⟩ (yielded ops a.tmps) = true) (hx : a.eval x = .string s) (hy : a.eval y = .string u) (hr : (!(s.toList == u.toList)) = r)
    (h : wpQuiet P ops C Q rest (a.put dst (.bool r))) : wpQuiet P ops C Q (⟨dst, .binOp .neq t x y yt, ty, pos, aft, gd⟩ :: rest) a :=
  qs_value hw (fun w _ => by simp [execOp, hx, hy, eqGuard, binOp, Op.stringOp, hr]) h
theorem qs_eql_int {t yt : TypeId} {x y : Operand} {k : IntKind} {m n : Int} {r : Bool} (hw : Region.wanted ⟨dst, .binOp .eql t x y yt, ty, pos, aft, gd⟩ (yielded ops a.tmps) = true) (hx : a.eval x = .int k m) (hy : a.eval y = .int k n) (hr : (m == n) = r)
    (h : wpQuiet P ops C Q rest (a.put dst (.bool r))) : wpQuiet P ops C Q (⟨dst, .binOp .eql t x y yt, ty, pos, aft, gd⟩ :: rest) a :=
  qs_value hw (fun w _ => by simp [execOp, hx, hy, eqGuard, binOp, Op.intCmp, hr]) h
theorem qs_neq_int {t yt : TypeId} {x y : Operand} {k : IntKind} {m n : Int} {r : Bool} (hw : Region.wanted ⟨dst, .binOp .neq t x y yt, ty, pos, aft, gd⟩ (yielded ops a.tmps) = true) (hx : a.eval x = .int k m) (hy : a.eval y = .int k n) (hr : (m != n) = r)
    (h : wpQuiet P ops C Q rest (a.put dst (.bool r))) : wpQuiet P ops C Q (⟨dst, .binOp .neq t x y yt, ty, pos, aft, gd⟩ :: rest) a :=
  qs_value hw (fun w _ => by simp [execOp, hx, hy, eqGuard, binOp, Op.intCmp, hr]) h
theorem qs_eql_arr {t e yt : TypeId} {n : Nat} (h0 : ArrTy P t e n) {x y : Operand} {r : Bool} (xs ys : List UInt8) (hr : (xs == ys) = r) (hlx : xs.length = n) (hly : ys.length = n) (hw : Region.wanted ⟨dst, .binOp .eql t x y yt, ty, pos, aft, gd⟩ (yielded ops a.tmps) = true)
    (ex : a.eval x = .agg (bytesU xs).toArray) (ey : a.eval y = .agg (bytesU ys).toArray) (h : wpQuiet P ops C Q rest (a.put dst (.bool r))) : wpQuiet P ops C Q (⟨dst, .binOp .eql t x y yt, ty, pos, aft, gd⟩ :: rest) a :=
  qs_value hw (fun w _ => by simp only [execOp, ex, ey, Sem.run_bind, run_eqGuard_agg (P := P) w .eql t x y _ _ h0.guard, Result.andThen_ok, run_eql_arr h0 xs ys hlx hly w, Sem.run_pure, hr]) h
theorem qs_neq_arr {t e yt : TypeId} {n : Nat} (h0 : ArrTy P t e n) {x y : Operand} {r : Bool} (xs ys : List UInt8) (hr : (!(xs == ys)) = r) (hlx : xs.length = n) (hly : ys.length = n) (hw : Region.wanted ⟨dst, .binOp .neq t x y yt, ty, pos, aft, gd⟩ (yielded ops a.tmps) = true)
    (ex : a.eval x = .agg (bytesU xs).toArray) (ey : a.eval y = .agg (bytesU ys).toArray) (h : wpQuiet P ops C Q rest (a.put dst (.bool r))) : wpQuiet P ops C Q (⟨dst, .binOp .neq t x y yt, ty, pos, aft, gd⟩ :: rest) a :=
  qs_value hw (fun w _ => by simp only [execOp, ex, ey, Sem.run_bind, run_eqGuard_agg (P := P) w .neq t x y _ _ h0.guard, Result.andThen_ok, run_neq_arr h0 xs ys hlx hly w, Sem.run_pure, hr]) h
end
end Go.Proofs.YtodjcgkbcbaadaaDoor.Ops
