/- Regions that draw their order: calls whose results aren't known ahead, extracts, slices. Over any program. -/
import Derived.Test.YtoddjofckbfkhaaDoorAh
import Derived.Laws.Slices
namespace Go.Proofs.YtoddjofckbfkhaaDoor.Ops
open Go.RowKit Mem
section
variable {P : Program} {ops : Array Oper} {a : Act} {w : World} {S : World → Prop} {Q : Exit → Act → World → Prop} {fuel : Nat} {listed : Array Bool}
theorem ah_callx (i : Nat) {dst : Option Tmp} {ty : TypeId} {pos : String} {aft : Array Edge} {gd : Option (Nat × Bool)} {f : FuncId} {fn : Func} {args : Array Operand} {tys : Array TypeId} {vs : Array Value} {R : Ending → World → Prop}
    (hr : Region.ready .any ops listed = [i]) (hi : ops[i]? = some ⟨dst, .call ⟨.value (.func f), args, tys⟩, ty, pos, aft, gd⟩) (hfn : IsFn P f fn) (hw : Region.wanted ⟨dst, .call ⟨.value (.func f), args, tys⟩, ty, pos, aft, gd⟩ (yielded ops a.tmps) = true)
    (hv : args.map a.eval = vs) (hc : Calls P f vs w R)
    (h : ∀ e w1, R e w1 → ∃ v, e = .returned v ∧ S w1 ∧ wpAnyH P .any ops Q S fuel (listed.setIfInBounds i true) (a.put dst v) w1) : wpAnyH P .any ops Q S (fuel + 1) listed a w := by
  refine wpAnyH_all hr (by simp) fun j hj => ?_
  obtain rfl : j = i := by simpa using hj
  unfold wpOp
  simp only [hi, hw, if_true]
  left
  unfold Oper.wp
  rw [run_call_fn hfn hv w]
  exact hc.mono fun e w1 h1 => by
    obtain ⟨v, he, h2, h3⟩ := h e w1 h1
    subst he
    exact ⟨h2, h3⟩
end
section
variable {P : Program} {a : Act} {w : World} {dst : Option Tmp} {ty : TypeId} {pos : String} {aft : Array Edge} {gd : Option (Nat × Bool)}
theorem rx_extract {x : Operand} {i : Nat} {vs : Array Value} {v : Value} (hx : a.eval x = .tuple vs) (hv : vs[i]? = some v) : (execOp a.eval ⟨dst, .extract x i, ty, pos, aft, gd⟩).run P w = .ok (.value v) w := by
  simp [execOp, Instr.extract, hx, hv]
theorem rx_assign {x : Operand} {v : Value} (hx : a.eval x = v) : (execOp a.eval ⟨dst, .assign x, ty, pos, aft, gd⟩).run P w = .ok (.value v) w := by
  simp [execOp, hx]
theorem rx_move {x : Operand} {v : Value} (hx : a.eval x = v) : (execOp a.eval ⟨dst, .move x, ty, pos, aft, gd⟩).run P w = .ok (.value v) w := by
  simp [execOp, hx]
/-- A slice's type: its elements' size. -/
structure SliceTy (P : Program) (t e : TypeId) (s : Nat) : Prop where
  sl : P.underlying t = some (.slice e)
  el : P.elem t = e
  size : ∀ w : World, (sizeOf e).run P w = .ok s w
theorem sizeOf_of {P : Program} {e : TypeId} {s : Nat} (h : (P.info? e).map (·.size) = some s) : ∀ w : World, (sizeOf e).run P w = .ok s w := by
  intro w
  obtain ⟨i, hi, h2⟩ := Option.map_eq_some_iff.1 h
  simp [sizeOf, typeInfo, hi, h2]
theorem rx_slice_to {t e : TypeId} {s : Nat} {x y : Operand} {A : Option Addr} {n c k : Nat} (ht : SliceTy P t e s) (hx : a.eval x = .slice A n c) (hy : a.eval y = .int .i64 (k : Int)) (hk : k ≤ c) :
    (execOp a.eval ⟨dst, .slice t x none (some y) none, ty, pos, aft, gd⟩).run P w = .ok (.value (.slice A k c)) w := by
  have h1 : P.underlying t = some (.slice (P.elem t)) := by rw [ht.el]; exact ht.sl
  have h2 := run_slice_h (P := P) (w := w) (t := t) (a := A) (len := n) (cap := c) h1 .i64 (k : Int) (by omega) (by omega)
  have h3 := run_sliceAt_slice (P := P) (w := w) t (.slice A n c) none (some (.int .i64 (k : Int))) none h1
  rw [ht.el, ht.size w] at h2
  simp only [Result.andThen_ok] at h2
  rw [h2] at h3
  simp only [sliced, Int.toNat_natCast, Nat.sub_zero, Nat.zero_mul] at h3
  have h4 : (if c = 0 then A else A.map (·.add 0)) = A := by
    split
    · rfl
    · cases A with
      | none => rfl
      | some ad => simp [Addr.add]
  rw [h4] at h3
  simp [execOp, hx, hy, h3]
theorem rx_slice_from {t e : TypeId} {s : Nat} {x y : Operand} {A A' : Option Addr} {n c k : Nat} (ht : SliceTy P t e s) (hx : a.eval x = .slice A n c) (hy : a.eval y = .int .i64 (k : Int)) (hk : k ≤ n)
    (hA : (if c = k then A else A.map (·.add (k * s))) = A') :
    (execOp a.eval ⟨dst, .slice t x (some y) none none, ty, pos, aft, gd⟩).run P w = .ok (.value (.slice A' (n - k) (c - k))) w := by
  have h1 : P.underlying t = some (.slice (P.elem t)) := by rw [ht.el]; exact ht.sl
  have h2 := run_slice_l (P := P) (w := w) (t := t) (a := A) (len := n) (cap := c) h1 .i64 (k : Int) (by omega) (by omega)
  have h3 := run_sliceAt_slice (P := P) (w := w) t (.slice A n c) (some (.int .i64 (k : Int))) none none h1
  rw [ht.el, ht.size w] at h2
  simp only [Result.andThen_ok] at h2
  rw [h2] at h3
  simp only [sliced, Int.toNat_natCast, hA] at h3
  simp [execOp, hx, hy, h3]
end
end Go.Proofs.YtoddjofckbfkhaaDoor.Ops
