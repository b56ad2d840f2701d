/- Values: their cells, loaded, stored, made, compared; what a right one is. -/
import Derived.Test.YtodjcgkbcbaadaaDoorProg
import Derived.Test.YtodjcgkbcbaadaaDoorPl
import Derived.WalkKit
import Derived.Test.YtodjcgkbcbaadaaDoorRow
import Derived.Test.YtodjcgkbcbaadaaDoorFl
import Derived.Laws.StructEq
import Derived.Laws.Tables
import Derived.Lib.ValidLaws
namespace Go.Proofs.YtodjcgkbcbaadaaDoor.Va
open Go.RowKit Mem Ops
structure V where
  kind : Int
  num : Int
  fl : Nat
  str : ByteArray
def V.cells (v : V) : List Value := [.int .u8 v.kind, .int .i64 v.num, .float .f64 v.fl, .string v.str]
def v0 : V := ⟨0, 0, 0, ⟨#[]⟩⟩
theorem fld0 : FieldIs Tryd.prog 27 0 0 := fieldIs (n := 0) Tryd.underlying27 rfl (by kernel_rfl) rfl
theorem fld1 : FieldIs Tryd.prog 27 1 1 := fieldIs (n := 0) Tryd.underlying27 rfl (by kernel_rfl) rfl
theorem fld2 : FieldIs Tryd.prog 27 2 2 := fieldIs (n := 0) Tryd.underlying27 rfl (by kernel_rfl) rfl
theorem fld3 : FieldIs Tryd.prog 27 3 3 := fieldIs (n := 0) Tryd.underlying27 rfl (by kernel_rfl) rfl
theorem sizeV : (Tryd.prog.info? 27).map (·.size) = some 4 := by kernel_rfl
theorem zeroV : (Tryd.prog.info? 27).map (fun i => (i.zero, i.size)) = some (some (.agg v0.cells.toArray), 4) := by kernel_rfl
theorem guardV : Tryd.prog.eqGuardType Tryd.prog.depth 27 = false := by kernel_rfl
theorem blk_range {w : World} {b : Nat} {v : V} {T : TypeId} (h : Blk w b v.cells.toArray T) : w.rangeAt b 0 v.cells := fun i u hu => by
  rw [Nat.zero_add, h.cell i]
  simpa using hu
theorem built_kind (kd : Int) : Tryd.prog.built 27 [(0, .int .u8 kd)] = some (V.mk kd 0 0 ⟨#[]⟩).cells.toArray := by kernel_rfl
/-- Two float64 are equal. -/
def feq (a b : Nat) : Bool := Ieee.double.order a b == some .eq
def eqV (x y : V) : Bool := x.kind == y.kind && (x.num == y.num && (feq x.fl y.fl && x.str.toList == y.str.toList))
theorem run_equalIn_float (w : World) (d : Nat) (t : TypeId) (a b : Nat) (h : Tryd.prog.underlying t = some (.float .f64)) : (Op.equalIn (d + 1) t (.float .f64 a) (.float .f64 b)).run Tryd.prog w = .ok (feq a b) w := by
  simp only [Op.equalIn, Sem.run_bind, run_underlying h, Result.andThen_ok]
  rfl
theorem run_equal_v (s t : V) (d : Nat) (w : World) : (Op.equalIn (d + 2) 27 (.agg s.cells.toArray) (.agg t.cells.toArray)).run Tryd.prog w = .ok (eqV s t) w := by
  simp [go_sem, V.cells, Op.eqFields, Program.fieldsOf, Tryd.underlying27, Tryd.underlying24, Tryd.underlying2, Tryd.underlying25, Tryd.underlying9, run_equalIn_float]
  by_cases h1 : s.kind = t.kind <;> by_cases h2 : s.num = t.num <;> by_cases h4 : feq s.fl t.fl <;> by_cases h3 : s.str.toList = t.str.toList <;> simp [eqV, h1, h2, h3, h4]
section
variable {ops : Array Oper} {rest : List Oper} {a : Act} {w : World} {dst : Option Tmp} {ty : TypeId} {pos : String} {aft : Array Edge} {gd : Option (Nat × Bool)}
theorem rl_load_v {x : Operand} {b o : Nat} {s : V} (hr : w.rangeAt b o s.cells) (hx : a.eval x = .pointer (some ⟨b, o, none⟩)) :
    (execOp a.eval ⟨dst, .load 27 x, ty, pos, aft, gd⟩).run Tryd.prog w = .ok (.value (.agg s.cells.toArray)) w := by
  have := run_loadVar_mid (P := Tryd.prog) w b o 27 s.cells _ hr Tryd.underlying27 rfl (by rw [sizeV]; rfl)
  simp [execOp, hx, Instr.loadAt, Instr.sureAddr]
  rw [this]; rfl
theorem rl_neq_v {yt : TypeId} {x y : Operand} {r : Bool} (s t : V) (hr : (!(eqV s t)) = r) (ex : a.eval x = .agg s.cells.toArray) (ey : a.eval y = .agg t.cells.toArray) :
    (execOp a.eval ⟨dst, .binOp .neq 27 x y yt, ty, pos, aft, gd⟩).run Tryd.prog w = .ok (.value (.bool r)) w := by
  subst hr
  simp only [execOp, ex, ey, Sem.run_bind, run_eqGuard_agg (P := Tryd.prog) w .neq 27 x y _ _ guardV, Result.andThen_ok, run_neq_struct, run_equal_v s t 9998 w, Sem.run_pure]
theorem pl_load_v {Q : Exit → Act → World → Prop} {x : Operand} {b o : Nat} {s : V} (hr : w.rangeAt b o s.cells) (hw : Region.wanted ⟨dst, .load 27 x, ty, pos, aft, gd⟩ (yielded ops a.tmps) = true)
    (hx : a.eval x = .pointer (some ⟨b, o, none⟩)) (hk : wpList Tryd.prog ops Q rest (a.put dst (.agg s.cells.toArray)) w) : wpList Tryd.prog ops Q (⟨dst, .load 27 x, ty, pos, aft, gd⟩ :: rest) a w :=
  pl_value hw (rl_load_v hr hx) hk
theorem pl_alloc_v {Q : Exit → Act → World → Prop} (hw : Region.wanted ⟨dst, .alloc 27, ty, pos, aft, gd⟩ (yielded ops a.tmps) = true)
    (h : wpList Tryd.prog ops Q rest (a.put dst (.pointer (some ⟨w.heap.size, 0, none⟩))) (w.alloc (.cells v0.cells.toArray 27))) : wpList Tryd.prog ops Q (⟨dst, .alloc 27, ty, pos, aft, gd⟩ :: rest) a w :=
  pl_value hw (rl_alloc (zeroIs_of_info zeroV)) h
theorem pl_store_v {Q : Exit → Act → World → Prop} {x y : Operand} {b : Nat} {o s : V} {T : TypeId} (hb : Blk w b o.cells.toArray T) (hw : Region.wanted ⟨dst, .store 27 x y, ty, pos, aft, gd⟩ (yielded ops a.tmps) = true)
    (ex : a.eval x = .pointer (some ⟨b, 0, none⟩)) (ey : a.eval y = .agg s.cells.toArray) (h : wpList Tryd.prog ops Q rest (a.put dst undef) (w.setRow b s.cells.toArray)) :
    wpList Tryd.prog ops Q (⟨dst, .store 27 x y, ty, pos, aft, gd⟩ :: rest) a w :=
  pl_unit hw (rl_store_row ex ey hb (by rw [sizeV]; rfl) rfl (by simp [V.cells, Value.oneCell'])) h
theorem pl_build_k {Q : Exit → Act → World → Prop} {x : Operand} {kd : Int} (hw : Region.wanted ⟨dst, .build 27 #[(0, x)], ty, pos, aft, gd⟩ (yielded ops a.tmps) = true)
    (hx : a.eval x = .int .u8 kd) (h : wpList Tryd.prog ops Q rest (a.put dst (.agg (V.mk kd 0 0 ⟨#[]⟩).cells.toArray)) w) : wpList Tryd.prog ops Q (⟨dst, .build 27 #[(0, x)], ty, pos, aft, gd⟩ :: rest) a w :=
  pl_value hw (by simp [execOp, hx, run_build w 27 #[(0, .int .u8 kd)] _ (built_kind kd)]) h
theorem pl_box_v {Q : Exit → Act → World → Prop} {x : Operand} {s : V} (hx : a.eval x = .agg s.cells.toArray) (h : wpList Tryd.prog ops Q rest (a.put dst (.pointer (some ⟨w.heap.size, 0, none⟩))) (w.alloc (.cells s.cells.toArray 27))) :
    wpList Tryd.prog ops Q (⟨dst, .box 27 x, ty, pos, aft, none⟩ :: rest) a w := step_box hx h
theorem qs_load_v {Q : Act → Prop} {x : Operand} {w0 : World} {b : Nat} {s : V} {T : TypeId} (hb : Blk w0 b s.cells.toArray T) (hw : Region.wanted ⟨dst, .load 27 x, ty, pos, aft, gd⟩ (yielded ops a.tmps) = true)
    (hx : a.eval x = .pointer (some ⟨b, 0, none⟩)) (hk : wpQuiet Tryd.prog ops (Ext w0) Q rest (a.put dst (.agg s.cells.toArray))) : wpQuiet Tryd.prog ops (Ext w0) Q (⟨dst, .load 27 x, ty, pos, aft, gd⟩ :: rest) a :=
  qs_value hw (fun _ hw => rl_load_v (blk_range (hb.below hw hb.lt)) hx) hk
theorem qs_neq_v {C : World → Prop} {Q : Act → Prop} {yt : TypeId} {x y : Operand} {r : Bool} (s t : V) (hr : (!(eqV s t)) = r) (hw : Region.wanted ⟨dst, .binOp .neq 27 x y yt, ty, pos, aft, gd⟩ (yielded ops a.tmps) = true)
    (ex : a.eval x = .agg s.cells.toArray) (ey : a.eval y = .agg t.cells.toArray) (h : wpQuiet Tryd.prog ops C Q rest (a.put dst (.bool r))) : wpQuiet Tryd.prog ops C Q (⟨dst, .binOp .neq 27 x y yt, ty, pos, aft, gd⟩ :: rest) a :=
  qs_value hw (fun _ _ => rl_neq_v s t hr ex ey) h
theorem qs_field {C : World → Prop} {Q : Act → Prop} {s : TypeId} {x : Operand} {i off b o : Nat} (hf : FieldIs Tryd.prog s i off) (hw : Region.wanted ⟨dst, .fieldAddr s x i, ty, pos, aft, gd⟩ (yielded ops a.tmps) = true) (hx : a.eval x = .pointer (some ⟨b, o, none⟩))
    (h : wpQuiet Tryd.prog ops C Q rest (a.put dst (.pointer (some ⟨b, o + off, none⟩)))) : wpQuiet Tryd.prog ops C Q (⟨dst, .fieldAddr s x i, ty, pos, aft, gd⟩ :: rest) a :=
  qs_value hw (fun _ _ => rl_field hf hx) h
theorem qs_not {C : World → Prop} {Q : Act → Prop} {t : TypeId} {x : Operand} {b : Bool} (hw : Region.wanted ⟨dst, .unOp .not t x, ty, pos, aft, gd⟩ (yielded ops a.tmps) = true) (hx : a.eval x = .bool b)
    (h : wpQuiet Tryd.prog ops C Q rest (a.put dst (.bool (!b)))) : wpQuiet Tryd.prog ops C Q (⟨dst, .unOp .not t x, ty, pos, aft, gd⟩ :: rest) a :=
  qs_value hw (fun w _ => by simp [execOp, hx]; rfl) h
theorem qs_neq_bool {C : World → Prop} {Q : Act → Prop} {t yt : TypeId} {x y : Operand} {b c : Bool} (ht : Tryd.prog.underlying t = some .bool) (hw : Region.wanted ⟨dst, .binOp .neq t x y yt, ty, pos, aft, gd⟩ (yielded ops a.tmps) = true) (hx : a.eval x = .bool b) (hy : a.eval y = .bool c)
    (h : wpQuiet Tryd.prog ops C Q rest (a.put dst (.bool (b != c)))) : wpQuiet Tryd.prog ops C Q (⟨dst, .binOp .neq t x y yt, ty, pos, aft, gd⟩ :: rest) a :=
  qs_value hw (fun w _ => by
    have he : (Op.equal t (.bool b) (.bool c)).run Tryd.prog w = .ok (b == c) w := run_equalIn_bool w 9999 t b c ht
    simp only [execOp, hx, hy, eqGuard, binOp, Sem.run_bind, Sem.run_pure, he, Result.andThen_ok, ite_self]
    cases b <;> cases c <;> rfl) h
theorem qs_load_cell {Q : Act → Prop} {t : TypeId} {x : Operand} {w0 : World} {b o : Nat} {cs : Array Value} {T : TypeId} {u : Value} (hb : Blk w0 b cs T) (hu : cs[o]? = some u) (hw : Region.wanted ⟨dst, .load t x, ty, pos, aft, gd⟩ (yielded ops a.tmps) = true)
    (hg : ∀ w : World, (isAgg t).run Tryd.prog w = .ok false w) (hx : a.eval x = .pointer (some ⟨b, o, none⟩)) (hk : wpQuiet Tryd.prog ops (Ext w0) Q rest (a.put dst u)) : wpQuiet Tryd.prog ops (Ext w0) Q (⟨dst, .load t x, ty, pos, aft, gd⟩ :: rest) a :=
  qs_value hw (fun w hw => by
    have hc : w.cell? ⟨b, o, none⟩ = some u := ((hb.below hw hb.lt).cell o).trans hu
    simp [execOp, hx, Instr.loadAt, Instr.sureAddr, loadVar, hg w, hc]) hk
end
/-- What a right value is. -/
def rightR (v : V) : Bool :=
  if v.kind = 0 ∨ v.kind = 8 ∨ v.kind = 9 ∨ v.kind = 10 ∨ v.kind = 11 then v.num == 0 && (v.fl == 0 && v.str.toList.isEmpty)
  else if v.kind = 1 then (v.num == 0 || v.num == 1) && (v.fl == 0 && v.str.toList.isEmpty)
  else if v.kind = 2 ∨ v.kind = 7 then v.fl == 0 && v.str.toList.isEmpty
  else if v.kind = 3 then v.num == 0 && (v.str.toList.isEmpty && (!(v.fl / 4503599627370496 % 2048 == 2047) && !(v.fl == 9223372036854775808)))
  else if v.kind = 4 then v.num == 0 && (v.fl == 0 && (decide (v.str.size ≤ 1000) && Lib.validD v.str.data.toList))
  else if v.kind = 5 then v.num == 0 && (v.fl == 0 && decide (v.str.size ≤ 1000))
  else if v.kind = 6 then decide (0 ≤ v.num) && (decide (v.num ≤ 9007199254740992) && (v.fl == 0 && v.str.toList.isEmpty))
  else false
end Go.Proofs.YtodjcgkbcbaadaaDoor.Va
