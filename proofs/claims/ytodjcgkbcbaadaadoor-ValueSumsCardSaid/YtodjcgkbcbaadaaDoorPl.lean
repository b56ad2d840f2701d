/- Steps of a plain region, guarded or not. Over any program. -/
import Derived.Test.YtodjcgkbcbaadaaDoorAh
namespace Go.Proofs.YtodjcgkbcbaadaaDoor.Ops
open Go.RowKit Mem
section
variable {P : Program} {ops : Array Oper} {rest : List Oper} {a : Act} {w : World} {Q : Exit → Act → World → Prop} {dst : Option Tmp} {ty : TypeId} {pos : String} {aft : Array Edge} {gd : Option (Nat × Bool)}

theorem pl_value {op : Op} {v : Value} {w' : World} (hw : Region.wanted ⟨dst, op, ty, pos, aft, gd⟩ (yielded ops a.tmps) = true) (hr : (execOp a.eval ⟨dst, op, ty, pos, aft, gd⟩).run P w = .ok (.value v) w')
    (h : wpList P ops Q rest (a.put dst v) w') : wpList P ops Q (⟨dst, op, ty, pos, aft, gd⟩ :: rest) a w := by
  refine wpList_step fun K hK => ?_
  rw [if_pos hw]
  unfold Oper.wp
  rw [hr]
  exact hK _ _ h
theorem pl_unit {op : Op} {w' : World} (hw : Region.wanted ⟨dst, op, ty, pos, aft, gd⟩ (yielded ops a.tmps) = true) (hr : (execOp a.eval ⟨dst, op, ty, pos, aft, gd⟩).run P w = .ok .skip w')
    (h : wpList P ops Q rest (a.put dst undef) w') : wpList P ops Q (⟨dst, op, ty, pos, aft, gd⟩ :: rest) a w := by
  refine wpList_step fun K hK => ?_
  rw [if_pos hw]
  unfold Oper.wp
  rw [hr]
  exact hK _ _ h
theorem pl_skip {o : Oper} (hw : Region.wanted o (yielded ops a.tmps) = false) (h : wpList P ops Q rest (a.put o.dst undef) w) : wpList P ops Q (o :: rest) a w := by
  refine wpList_step fun K hK => ?_
  rw [if_neg (by rw [hw]; exact Bool.false_ne_true)]
  exact hK _ _ h
theorem pl_call {f : FuncId} {fn : Func} {args : Array Operand} {tys : Array TypeId} {vs : Array Value} {v : Value} {W : World → Prop} (hfn : IsFn P f fn) (hw : Region.wanted ⟨dst, .call ⟨.value (.func f), args, tys⟩, ty, pos, aft, gd⟩ (yielded ops a.tmps) = true)
    (hv : args.map a.eval = vs) (hc : Calls P f vs w fun e w1 => e = .returned v ∧ W w1) (h : ∀ w1, W w1 → wpList P ops Q rest (a.put dst v) w1) :
    wpList P ops Q (⟨dst, .call ⟨.value (.func f), args, tys⟩, ty, pos, aft, gd⟩ :: rest) a w := by
  refine wpList_step fun K hK => ?_
  rw [if_pos hw]
  unfold Oper.wp
  rw [run_call_fn hfn hv w]
  exact hc.mono fun e w1 ⟨he, h1⟩ => by subst he; exact hK _ _ (h _ h1)
theorem pl_load_arr {t e : TypeId} {n : Nat} {x : Operand} {b : Nat} {cs : Array Value} {T : TypeId} (ha : ArrTy P t e n) (hb : Blk w b cs T) (hw : Region.wanted ⟨dst, .load t x, ty, pos, aft, gd⟩ (yielded ops a.tmps) = true)
    (hx : a.eval x = .pointer (some ⟨b, 0, none⟩)) (hn : cs.size = n) (h : wpList P ops Q rest (a.put dst (.agg cs)) w) : wpList P ops Q (⟨dst, .load t x, ty, pos, aft, gd⟩ :: rest) a w :=
  pl_value hw (rl_load_part (off := 0) ha hb hx (by simp [← hn]) (by omega)) h
theorem pl_load_part {t e : TypeId} {n : Nat} {x : Operand} {b off : Nat} {cs C : Array Value} {T : TypeId} (ha : ArrTy P t e n) (hb : Blk w b C T) (hcs : C.extract off (off + n) = cs) (hw : Region.wanted ⟨dst, .load t x, ty, pos, aft, gd⟩ (yielded ops a.tmps) = true)
    (hx : a.eval x = .pointer (some ⟨b, off, none⟩)) (hsz : off + n ≤ C.size) (h : wpList P ops Q rest (a.put dst (.agg cs)) w) : wpList P ops Q (⟨dst, .load t x, ty, pos, aft, gd⟩ :: rest) a w :=
  pl_value hw (rl_load_part ha hb hx hcs hsz) h
theorem rl_eql_arr {t e yt : TypeId} {n : Nat} (h0 : ArrTy P t e n) {x y : Operand} {r : Bool} (xs ys : List UInt8) (hr : (xs == ys) = r) (hlx : xs.length = n) (hly : ys.length = n)
    (ex : a.eval x = .agg (bytesU xs).toArray) (ey : a.eval y = .agg (bytesU ys).toArray) : (execOp a.eval ⟨dst, .binOp .eql t x y yt, ty, pos, aft, gd⟩).run P w = .ok (.value (.bool r)) w := by
  simp only [execOp, ex, ey, Sem.run_bind, run_eqGuard_agg (P := P) w .eql t x y _ _ h0.guard, Result.andThen_ok, run_eql_arr h0 xs ys hlx hly w, Sem.run_pure, hr]
theorem rl_neq_arr {t e yt : TypeId} {n : Nat} (h0 : ArrTy P t e n) {x y : Operand} {r : Bool} (xs ys : List UInt8) (hr : (!(xs == ys)) = r) (hlx : xs.length = n) (hly : ys.length = n)
    (ex : a.eval x = .agg (bytesU xs).toArray) (ey : a.eval y = .agg (bytesU ys).toArray) : (execOp a.eval ⟨dst, .binOp .neq t x y yt, ty, pos, aft, gd⟩).run P w = .ok (.value (.bool r)) w := by
  simp only [execOp, ex, ey, Sem.run_bind, run_eqGuard_agg (P := P) w .neq t x y _ _ h0.guard, Result.andThen_ok, run_neq_arr h0 xs ys hlx hly w, Sem.run_pure, hr]
theorem pl_eql_arr {t e yt : TypeId} {n : Nat} (h0 : ArrTy P t e n) {x y : Operand} {r : Bool} (xs ys : List UInt8) (hr : (xs == ys) = r) (hlx : xs.length = n) (hly : ys.length = n) (hw : Region.wanted ⟨dst, .binOp .eql t x y yt, ty, pos, aft, gd⟩ (yielded ops a.tmps) = true)
    (ex : a.eval x = .agg (bytesU xs).toArray) (ey : a.eval y = .agg (bytesU ys).toArray) (h : wpList P ops Q rest (a.put dst (.bool r)) w) : wpList P ops Q (⟨dst, .binOp .eql t x y yt, ty, pos, aft, gd⟩ :: rest) a w :=
  pl_value hw (rl_eql_arr h0 xs ys hr hlx hly ex ey) h
theorem pl_neq_arr {t e yt : TypeId} {n : Nat} (h0 : ArrTy P t e n) {x y : Operand} {r : Bool} (xs ys : List UInt8) (hr : (!(xs == ys)) = r) (hlx : xs.length = n) (hly : ys.length = n) (hw : Region.wanted ⟨dst, .binOp .neq t x y yt, ty, pos, aft, gd⟩ (yielded ops a.tmps) = true)
    (ex : a.eval x = .agg (bytesU xs).toArray) (ey : a.eval y = .agg (bytesU ys).toArray) (h : wpList P ops Q rest (a.put dst (.bool r)) w) : wpList P ops Q (⟨dst, .binOp .neq t x y yt, ty, pos, aft, gd⟩ :: rest) a w :=
  pl_value hw (rl_neq_arr h0 xs ys hr hlx hly ex ey) h
theorem pl_store_arr {t e : TypeId} {n : Nat} {x y : Operand} {b : Nat} {old cs : Array Value} {T : TypeId} (h0 : ArrTy P t e n) (hb : Blk w b old T) (hw : Region.wanted ⟨dst, .store t x y, ty, pos, aft, gd⟩ (yielded ops a.tmps) = true)
    (ex : a.eval x = .pointer (some ⟨b, 0, none⟩)) (ey : a.eval y = .agg cs) (ho : old.size = n) (hc : cs.size = n) (h1 : cs.all (·.oneCell') = true) (h : wpList P ops Q rest (a.put dst undef) (w.setRow b cs)) :
    wpList P ops Q (⟨dst, .store t x y, ty, pos, aft, gd⟩ :: rest) a w :=
  pl_unit hw (rl_store_row ex ey hb (by rw [h0.size, hc]) (by rw [ho, hc]) h1) h
theorem pl_alloc_arr {t e : TypeId} {n : Nat} (h0 : ArrTy P t e n) (hw : Region.wanted ⟨dst, .alloc t, ty, pos, aft, gd⟩ (yielded ops a.tmps) = true)
    (h : wpList P ops Q rest (a.put dst (.pointer (some ⟨w.heap.size, 0, none⟩))) (w.alloc (.cells (bytesU (zerosL n)).toArray t))) : wpList P ops Q (⟨dst, .alloc t, ty, pos, aft, gd⟩ :: rest) a w :=
  pl_value hw (rl_alloc_arr h0) h
end
end Go.Proofs.YtodjcgkbcbaadaaDoor.Ops
