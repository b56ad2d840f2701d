/- Regions that draw their order and make memory: the moves of a walk over all orders, one by one. Over any program. -/
import Derived.Test.YtodjcgkbcbaadaaDoorQz
import Derived.OrdersHeld
import Derived.Deep.MidRow
namespace Go.Proofs.YtodjcgkbcbaadaaDoor.Ops
open Go.RowKit Mem
section
variable {P : Program} {ops : Array Oper} {a : Act} {w : World} {S : World → Prop} {Q : Exit → Act → World → Prop} {fuel : Nat} {listed : Array Bool}

/-- Take an operation first that reads what S keeps. -/
theorem ah_take (i : Nat) {o : Oper} {v : Value} (hi : ops[i]? = some o) (hs : Region.noSelect ops = true) (hf : Region.free .any ops listed i = true) (hr : (Region.ready .any ops listed).contains i = true)
    (hQ : ∀ c a w, Q (.panic c) (a.put o.dst v) w → Q (.panic c) a w) (hw : Region.wanted o (yielded ops a.tmps) = true) (hrun : ∀ w', S w' → (execOp a.eval o).run P w' = .ok (.value v) w') (hS : S w)
    (h : wpAnyH P .any ops Q S fuel (listed.setIfInBounds i true) (a.put o.dst v) w) : wpAnyH P .any ops Q S (fuel + 1) listed a w :=
  wpAnyH_take hi hs hf hr hQ (.inl ⟨hw, hrun⟩) hS h
/-- An operation that is passed over. -/
theorem ah_skip (i : Nat) {o : Oper} (hi : ops[i]? = some o) (hs : Region.noSelect ops = true) (hf : Region.free .any ops listed i = true) (hr : (Region.ready .any ops listed).contains i = true)
    (hQ : ∀ c a w, Q (.panic c) (a.put o.dst undef) w → Q (.panic c) a w) (hw : Region.wanted o (yielded ops a.tmps) = false) (hS : S w)
    (h : wpAnyH P .any ops Q S fuel (listed.setIfInBounds i true) (a.put o.dst undef) w) : wpAnyH P .any ops Q S (fuel + 1) listed a w :=
  wpAnyH_take hi hs hf hr hQ (.inr ⟨hw, rfl⟩) hS h
/-- The one that may come up comes up. -/
theorem ah_one (i : Nat) {o : Oper} {v : Value} {w' : World} (hr : Region.ready .any ops listed = [i]) (hi : ops[i]? = some o) (hw : Region.wanted o (yielded ops a.tmps) = true) (hrun : (execOp a.eval o).run P w = .ok (.value v) w') (hS : S w')
    (h : wpAnyH P .any ops Q S fuel (listed.setIfInBounds i true) (a.put o.dst v) w') : wpAnyH P .any ops Q S (fuel + 1) listed a w := by
  refine wpAnyH_all hr (by simp) fun j hj => ?_
  obtain rfl : j = i := by simpa using hj
  unfold wpOp
  simp only [hi, hw, if_true]
  left
  unfold Oper.wp
  rw [hrun]
  exact ⟨hS, h⟩
theorem ah_skip1 (i : Nat) {o : Oper} {w' : World} (hr : Region.ready .any ops listed = [i]) (hi : ops[i]? = some o) (hw : Region.wanted o (yielded ops a.tmps) = true) (hrun : (execOp a.eval o).run P w = .ok .skip w') (hS : S w')
    (h : wpAnyH P .any ops Q S fuel (listed.setIfInBounds i true) (a.put o.dst undef) w') : wpAnyH P .any ops Q S (fuel + 1) listed a w := by
  refine wpAnyH_all hr (by simp) fun j hj => ?_
  obtain rfl : j = i := by simpa using hj
  unfold wpOp
  simp only [hi, hw, if_true]
  left
  unfold Oper.wp
  rw [hrun]
  exact ⟨hS, h⟩
/-- One of two comes up. -/
theorem ah_two (i j : Nat) (hr : Region.ready .any ops listed = [i, j])
    (hi : wpOp P ops Q i (fun a' w' => S w' ∧ wpAnyH P .any ops Q S fuel (listed.setIfInBounds i true) a' w') a w)
    (hj : wpOp P ops Q j (fun a' w' => S w' ∧ wpAnyH P .any ops Q S fuel (listed.setIfInBounds j true) a' w') a w) : wpAnyH P .any ops Q S (fuel + 1) listed a w := by
  refine wpAnyH_all hr (by simp) fun k hk => ?_
  rcases List.mem_cons.1 hk with rfl | hk
  · exact hi
  · obtain rfl : k = j := by simpa using hk
    exact hj
theorem op_value {K : Act → World → Prop} {i : Nat} {o : Oper} {v : Value} {w' : World} (hi : ops[i]? = some o) (hw : Region.wanted o (yielded ops a.tmps) = true) (hrun : (execOp a.eval o).run P w = .ok (.value v) w')
    (h : K (a.put o.dst v) w') : wpOp P ops Q i K a w := by
  unfold wpOp
  simp only [hi, hw, if_true]
  left
  unfold Oper.wp
  rw [hrun]
  exact h
theorem op_call {K : Act → World → Prop} {i : Nat} {dst : Option Tmp} {ty : TypeId} {pos : String} {aft : Array Edge} {gd : Option (Nat × Bool)} {f : FuncId} {fn : Func} {args : Array Operand} {tys : Array TypeId} {vs : Array Value} {v : Value} {w' : World → Prop}
    (hi : ops[i]? = some ⟨dst, .call ⟨.value (.func f), args, tys⟩, ty, pos, aft, gd⟩) (hfn : IsFn P f fn) (hw : Region.wanted ⟨dst, .call ⟨.value (.func f), args, tys⟩, ty, pos, aft, gd⟩ (yielded ops a.tmps) = true)
    (hv : args.map a.eval = vs) (hc : Calls P f vs w fun e w1 => e = .returned v ∧ w' w1) (h : ∀ w1, w' w1 → K (a.put dst v) w1) : wpOp P ops Q i K a w := by
  unfold wpOp
  simp only [hi, hw, if_true]
  left
  unfold Oper.wp
  rw [run_call_fn hfn hv w]
  exact hc.mono fun e w1 ⟨he, h1⟩ => by subst he; exact h _ h1
theorem ah_call (i : Nat) {dst : Option Tmp} {ty : TypeId} {pos : String} {aft : Array Edge} {gd : Option (Nat × Bool)} {f : FuncId} {fn : Func} {args : Array Operand} {tys : Array TypeId} {vs : Array Value} {v : Value} {w' : World → Prop}
    (hr : Region.ready .any ops listed = [i]) (hi : ops[i]? = some ⟨dst, .call ⟨.value (.func f), args, tys⟩, ty, pos, aft, gd⟩) (hfn : IsFn P f fn) (hw : Region.wanted ⟨dst, .call ⟨.value (.func f), args, tys⟩, ty, pos, aft, gd⟩ (yielded ops a.tmps) = true)
    (hv : args.map a.eval = vs) (hc : Calls P f vs w fun e w1 => e = .returned v ∧ w' w1) (hS : ∀ w1, w' w1 → S w1)
    (h : ∀ w1, w' w1 → wpAnyH P .any ops Q S fuel (listed.setIfInBounds i true) (a.put dst v) w1) : wpAnyH P .any ops Q S (fuel + 1) listed a w := by
  refine wpAnyH_all hr (by simp) fun j hj => ?_
  obtain rfl : j = i := by simpa using hj
  exact op_call hi hfn hw hv hc fun w1 h1 => ⟨hS w1 h1, h w1 h1⟩
end

section
variable {P : Program} {a : Act} {w : World} {dst : Option Tmp} {ty : TypeId} {pos : String} {aft : Array Edge} {gd : Option (Nat × Bool)}
theorem rl_alloc {t : TypeId} {Z : Value} (hz : ZeroIs P t Z) : (execOp a.eval ⟨dst, .alloc t, ty, pos, aft, gd⟩).run P w = .ok (.value (.pointer (some ⟨w.heap.size, 0, none⟩))) (w.alloc (.cells Z.cells t)) := by
  simp [execOp, Instr.alloc, hz w, newVar, newRow]
theorem rl_alloc_arr {t e : TypeId} {n : Nat} (h : ArrTy P t e n) : (execOp a.eval ⟨dst, .alloc t, ty, pos, aft, gd⟩).run P w = .ok (.value (.pointer (some ⟨w.heap.size, 0, none⟩))) (w.alloc (.cells (bytesU (zerosL n)).toArray t)) := by
  rw [← zerosA]; exact rl_alloc h.zeroIs
theorem rl_store_row {t : TypeId} {x y : Operand} {b : Nat} {old cs : Array Value} {T : TypeId} (ex : a.eval x = .pointer (some ⟨b, 0, none⟩)) (ey : a.eval y = .agg cs) (hb : Blk w b old T)
    (hi : (P.info? t).map (·.size) = some cs.size) (ho : old.size = cs.size) (h1 : cs.all (·.oneCell') = true) :
    (execOp a.eval ⟨dst, .store t x y, ty, pos, aft, gd⟩).run P w = .ok .skip (w.setRow b cs) := by
  simp [execOp, ex, ey, Instr.storeAt, Instr.sureAddr, run_storeVar_row w b T t old cs hb hi ho h1]
theorem rl_load_part {t e : TypeId} {n : Nat} {x : Operand} {b off : Nat} {cs C : Array Value} {T : TypeId} (ha : ArrTy P t e n) (hb : Blk w b C T) (hx : a.eval x = .pointer (some ⟨b, off, none⟩)) (hcs : C.extract off (off + n) = cs) (hsz : off + n ≤ C.size) :
    (execOp a.eval ⟨dst, .load t x, ty, pos, aft, gd⟩).run P w = .ok (.value (.agg cs)) w := by
  have hr := World.rangeAt_of_block hb off n
  rw [hcs] at hr
  have hl : cs.toList.length = n := by rw [← hcs]; simp; omega
  have := run_loadVar_mid (P := P) w b off t cs.toList (.array n e) hr ha.arr rfl (by rw [ha.size, hl])
  simp [execOp, hx, Instr.loadAt, Instr.sureAddr]
  simp only [Array.toArray_toList] at this
  rw [this]; rfl
/-- Where field i of struct type s lies. -/
def FieldIs (P : Program) (s : TypeId) (i off : Nat) : Prop := ∀ (b o : Nat) (w : World), (Instr.fieldAt s (.pointer (some ⟨b, o, none⟩)) i).run P w = .ok (.pointer (some ⟨b, o + off, none⟩)) w
theorem fieldIs {s : TypeId} {i off n : Nat} {fs : Array Field} {f : Field} (hu : P.underlying s = some (.struct fs)) (hf : fs[i]? = some f) (hs : (P.info? f.type).map (·.size) = some (n + 1)) (ho : f.offset = off) : FieldIs P s i off := by
  intro b o w
  cases hq : P.info? f.type with
  | none => simp [hq] at hs
  | some inf =>
    have h1 : inf.size = n + 1 := by simpa [hq] using hs
    simp [Instr.fieldAt, run_underlying hu, hf, Instr.sureAddr, fieldPlace, sizeOf, typeInfo, hq, h1, ho, Addr.add_mid]
theorem rl_field {s : TypeId} {x : Operand} {i off : Nat} {b o : Nat} (hf : FieldIs P s i off) (hx : a.eval x = .pointer (some ⟨b, o, none⟩)) :
    (execOp a.eval ⟨dst, .fieldAddr s x i, ty, pos, aft, gd⟩).run P w = .ok (.value (.pointer (some ⟨b, o + off, none⟩))) w := by
  simp [execOp, hx, hf b o w]
end
end Go.Proofs.YtodjcgkbcbaadaaDoor.Ops
