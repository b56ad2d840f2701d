/- Lists of hashes in memory; loads and stores of one of them. Over any program. -/
import Derived.Test.YtoddjofckbfkhaaDoorPl
namespace Go.Proofs.YtoddjofckbfkhaaDoor.Mem
open Go.RowKit

/-- A slice's elements are these hashes. -/
def Hs (w : World) (a : Option Addr) (l : List (List UInt8)) : Prop := Row w a (l.flatMap bytesU) ∧ ∀ h ∈ l, h.length = 32
theorem Hs.below {w w' : World} {a : Option Addr} {l : List (List UInt8)} (h : Hs w a l) (k : Below w.heap.size w w') : Hs w' a l := ⟨h.1.below k, h.2⟩
theorem Hs.len {w : World} {a : Option Addr} {l : List (List UInt8)} (h : Hs w a l) {i : Nat} (hi : i < l.length) : (l.getD i []).length = 32 := by
  rw [List.getD_eq_getElem?_getD, List.getElem?_eq_getElem hi]; exact h.2 _ (List.getElem_mem _)
theorem flat_at : ∀ (l : List (List UInt8)), (∀ h ∈ l, h.length = 32) → ∀ (i j : Nat), i < l.length → j < 32 → (l.flatMap bytesU)[i * 32 + j]? = (bytesU (l.getD i []))[j]?
  | [], _, i, _, hi, _ => by simp at hi
  | h :: l, hl, 0, j, _, hj => by
    have := hl h (by simp)
    rw [List.flatMap_cons, List.getElem?_append_left (by simp; omega)]; simp
  | h :: l, hl, i + 1, j, hi, hj => by
    have h1 := hl h (by simp)
    rw [List.flatMap_cons, List.getElem?_append_right (by simp; omega)]
    have := flat_at l (fun x hx => hl x (by simp [hx])) i j (by simpa using hi) hj
    rw [show (i + 1) * 32 + j - (bytesU h).length = i * 32 + j from by simp; omega, this]
    simp
theorem length_flat : ∀ (l : List (List UInt8)), (∀ h ∈ l, h.length = 32) → (l.flatMap bytesU).length = l.length * 32
  | [], _ => rfl
  | h :: l, hl => by
    have h1 := hl h (by simp)
    have := length_flat l (fun x hx => hl x (by simp [hx]))
    simp only [List.flatMap_cons, List.length_append, length_bytesU, this, List.length_cons, h1]; omega
theorem Hs.addr {w : World} {a : Option Addr} {l : List (List UInt8)} (h : Hs w a l) (hp : 0 < l.length) : ∃ b off, a = some ⟨b, off, none⟩ ∧ b < w.heap.size ∧ ∀ i, i < l.length → w.rangeAt b (off + i * 32) (bytesU (l.getD i [])) := by
  obtain ⟨b, off, ha, hb, hc⟩ := h.1.addr (by rw [length_flat l h.2]; omega)
  refine ⟨b, off, ha, hb, fun i hi j v hv => ?_⟩
  have hl := h.len hi
  have hj : j < 32 := by
    rcases Nat.lt_or_ge j 32 with k | k
    · exact k
    · rw [List.getElem?_eq_none (by rw [length_bytesU]; omega)] at hv; cases hv
  rw [Nat.add_assoc]
  exact hc _ _ ((flat_at l h.2 i j hi hj).trans hv)
theorem rangeAt_below {w w' : World} {b o : Nat} {cs : List Value} (h : w.rangeAt b o cs) (k : Below w.heap.size w w') (hb : b < w.heap.size) : w'.rangeAt b o cs :=
  fun j v hv => (k.cell (p := ⟨b, o + j, none⟩) hb).trans (h j v hv)
end Go.Proofs.YtoddjofckbfkhaaDoor.Mem
namespace Go.Proofs.YtoddjofckbfkhaaDoor.Ops
open Go.RowKit Mem
section
variable {P : Program} {ops : Array Oper} {rest : List Oper} {a : Act} {w : World} {Q : Exit → Act → World → Prop} {dst : Option Tmp} {ty : TypeId} {pos : String} {aft : Array Edge} {gd : Option (Nat × Bool)}
theorem rl_load_range {t e : TypeId} {n : Nat} {x : Operand} {b o : Nat} {h : List UInt8} (ha : ArrTy P t e n) (hr : w.rangeAt b o (bytesU h)) (hx : a.eval x = .pointer (some ⟨b, o, none⟩)) (hn : h.length = n) :
    (execOp a.eval ⟨dst, .load t x, ty, pos, aft, gd⟩).run P w = .ok (.value (.agg (bytesU h).toArray)) w := by
  have := run_loadVar_mid (P := P) w b o t (bytesU h) (.array n e) hr ha.arr rfl (by rw [ha.size]; simp [hn])
  simp [execOp, hx, Instr.loadAt, Instr.sureAddr]
  rw [this]; rfl
theorem pl_load_range {t e : TypeId} {n : Nat} {x : Operand} {b o : Nat} {h : List UInt8} (ha : ArrTy P t e n) (hr : w.rangeAt b o (bytesU h)) (hn : h.length = n) (hw : Region.wanted ⟨dst, .load t x, ty, pos, aft, gd⟩ (yielded ops a.tmps) = true)
    (hx : a.eval x = .pointer (some ⟨b, o, none⟩)) (hk : wpList P ops Q rest (a.put dst (.agg (bytesU h).toArray)) w) : wpList P ops Q (⟨dst, .load t x, ty, pos, aft, gd⟩ :: rest) a w :=
  pl_value hw (rl_load_range ha hr hx hn) hk
theorem qs_load_range {Q : Act → Prop} {t e : TypeId} {n : Nat} {x : Operand} {w0 : World} {b o : Nat} {h : List UInt8} (ha : ArrTy P t e n) (hr : w0.rangeAt b o (bytesU h)) (hb : b < w0.heap.size) (hn : h.length = n) (hw : Region.wanted ⟨dst, .load t x, ty, pos, aft, gd⟩ (yielded ops a.tmps) = true)
    (hx : a.eval x = .pointer (some ⟨b, o, none⟩)) (hk : wpQuiet P ops (Ext w0) Q rest (a.put dst (.agg (bytesU h).toArray))) : wpQuiet P ops (Ext w0) Q (⟨dst, .load t x, ty, pos, aft, gd⟩ :: rest) a :=
  qs_value hw (fun _ hw => rl_load_range ha (rangeAt_below hr hw hb) hx hn) hk
/-- A row of the table: a slice type and how many cells an element has. -/
structure SlTy (P : Program) (t e : TypeId) (s : Nat) : Prop where
  sl : P.underlying t = some (.slice e)
  size : (P.info? e).map (·.size) = some s
theorem SlTy.sizeOf {t e : TypeId} {s : Nat} (h : SlTy P t e s) (w : World) : (Go.sizeOf e).run P w = .ok s w := by
  have hs := h.size
  cases hq : P.info? e with
  | none => simp [hq] at hs
  | some i => simp [hq] at hs; simp [Go.sizeOf, typeInfo, hq, hs]
theorem rl_index {t e : TypeId} {s : Nat} (h : SlTy P t e s) {x y : Operand} {b off len cap i : Nat} {k : IntKind} (hx : a.eval x = .slice (some ⟨b, off, none⟩) len cap) (hy : a.eval y = .int k (i : Int)) (hi : i < len) :
    (execOp a.eval ⟨dst, .indexAddr t x y, ty, pos, aft, gd⟩).run P w = .ok (.value (.pointer (some ⟨b, off + i * s, none⟩))) w := by
  have hsz := h.sizeOf w
  simp [execOp, hx, hy, Instr.indexAt, asIntOf, run_underlying h.sl, hi, hsz, Addr.add_mid]
theorem qs_index {Q : Act → Prop} {C : World → Prop} {t e : TypeId} {s : Nat} (h : SlTy P t e s) {x y : Operand} {b off len cap : Nat} (i : Nat) {k : IntKind} (hw : Region.wanted ⟨dst, .indexAddr t x y, ty, pos, aft, gd⟩ (yielded ops a.tmps) = true)
    (hx : a.eval x = .slice (some ⟨b, off, none⟩) len cap) (hy : a.eval y = .int k (i : Int)) (hi : i < len) (hk : wpQuiet P ops C Q rest (a.put dst (.pointer (some ⟨b, off + i * s, none⟩)))) :
    wpQuiet P ops C Q (⟨dst, .indexAddr t x y, ty, pos, aft, gd⟩ :: rest) a :=
  qs_value hw (fun _ _ => rl_index h hx hy hi) hk
theorem qs_geq_int {Q : Act → Prop} {C : World → Prop} {t yt : TypeId} {x y : Operand} {k : IntKind} {m n : Int} {r : Bool} (hw : Region.wanted ⟨dst, .binOp .geq t x y yt, ty, pos, aft, gd⟩ (yielded ops a.tmps) = true) (hx : a.eval x = .int k m) (hy : a.eval y = .int k n) (hr : decide (m ≥ n) = r)
    (h : wpQuiet P ops C Q rest (a.put dst (.bool r))) : wpQuiet P ops C Q (⟨dst, .binOp .geq t x y yt, ty, pos, aft, gd⟩ :: rest) a :=
  qs_value hw (fun w _ => by subst hr; simp [execOp, hx, hy, eqGuard, binOp, Op.intCmp]) h
theorem qs_gtr_int {Q : Act → Prop} {C : World → Prop} {t yt : TypeId} {x y : Operand} {k : IntKind} {m n : Int} {r : Bool} (hw : Region.wanted ⟨dst, .binOp .gtr t x y yt, ty, pos, aft, gd⟩ (yielded ops a.tmps) = true) (hx : a.eval x = .int k m) (hy : a.eval y = .int k n) (hr : decide (m > n) = r)
    (h : wpQuiet P ops C Q rest (a.put dst (.bool r))) : wpQuiet P ops C Q (⟨dst, .binOp .gtr t x y yt, ty, pos, aft, gd⟩ :: rest) a :=
  qs_value hw (fun w _ => by subst hr; simp [execOp, hx, hy, eqGuard, binOp, Op.intCmp]) h
theorem qs_lss_int {Q : Act → Prop} {C : World → Prop} {t yt : TypeId} {x y : Operand} {k : IntKind} {m n : Int} {r : Bool} (hw : Region.wanted ⟨dst, .binOp .lss t x y yt, ty, pos, aft, gd⟩ (yielded ops a.tmps) = true) (hx : a.eval x = .int k m) (hy : a.eval y = .int k n) (hr : decide (m < n) = r)
    (h : wpQuiet P ops C Q rest (a.put dst (.bool r))) : wpQuiet P ops C Q (⟨dst, .binOp .lss t x y yt, ty, pos, aft, gd⟩ :: rest) a :=
  qs_value hw (fun w _ => by subst hr; simp [execOp, hx, hy, eqGuard, binOp, Op.intCmp]) h
theorem qs_sub {Q : Act → Prop} {C : World → Prop} {t yt : TypeId} {x y : Operand} {k : IntKind} {m n r : Int} (hw : Region.wanted ⟨dst, .binOp .sub t x y yt, ty, pos, aft, gd⟩ (yielded ops a.tmps) = true) (hx : a.eval x = .int k m) (hy : a.eval y = .int k n) (hr : k.wrap (m - n) = r)
    (h : wpQuiet P ops C Q rest (a.put dst (.int k r))) : wpQuiet P ops C Q (⟨dst, .binOp .sub t x y yt, ty, pos, aft, gd⟩ :: rest) a :=
  qs_value hw (fun w _ => by subst hr; simp [execOp, hx, hy, eqGuard, binOp, Op.intArith]) h
theorem qs_strTo {Q : Act → Prop} {C : World → Prop} {t : TypeId} {x y : Operand} {s u : ByteArray} {j : Nat} {k : IntKind} (ht : P.underlying t = some .string) (hw : Region.wanted ⟨dst, .slice t x none (some y) none, ty, pos, aft, gd⟩ (yielded ops a.tmps) = true) (hx : a.eval x = .string s) (hy : a.eval y = .int k (j : Int)) (hj : j ≤ s.size)
    (hu : s.extract 0 j = u) (h : wpQuiet P ops C Q rest (a.put dst (.string u))) : wpQuiet P ops C Q (⟨dst, .slice t x none (some y) none, ty, pos, aft, gd⟩ :: rest) a :=
  qs_value hw (fun w _ => by
    subst hu
    have := run_slice_string_to_if (P := P) w t s k (j : Int) ht
    simp [execOp, Instr.sliceAt, run_underlying ht, hx, hy]
    rw [this]
    simp [hj]) h
end
end Go.Proofs.YtoddjofckbfkhaaDoor.Ops
