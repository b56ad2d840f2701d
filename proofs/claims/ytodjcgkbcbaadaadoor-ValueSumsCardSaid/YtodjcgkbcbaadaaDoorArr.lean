/- Steps of a plain region over arrays of bytes by value: compared, built empty, stored whole; results that lie in a variable. Over any program. -/
import Derived.Test.YtodjcgkbcbaadaaDoorOps
import Derived.Test.YtodjcgkbcbaadaaDoorRow
import Derived.Stop.BytesEq
import Derived.Laws.Tables
namespace Go.Proofs.YtodjcgkbcbaadaaDoor.Ops
open Go.RowKit Mem

/-- A row of the table: an array type of n bytes. -/
structure ArrTy (P : Program) (t e : TypeId) (n : Nat) : Prop where
  arr : P.underlying t = some (.array n e)
  el : P.underlying e = some (.int .u8)
  size : (P.info? t).map (·.size) = some n
  one : (P.info? e).map (·.size) = some 1
  guard : P.eqGuardType P.depth t = false
  zero : (P.info? t).map (fun i => (i.zero, i.size)) = some (some (.agg (Array.replicate n (.int .u8 0))), n)

theorem ArrTy.isAgg {P : Program} {t e : TypeId} {n : Nat} (h : ArrTy P t e n) (w : World) : (Go.isAgg e).run P w = .ok false w := by simp [Go.isAgg, run_underlying h.el]
theorem ArrTy.sizeOf {P : Program} {t e : TypeId} {n : Nat} (h : ArrTy P t e n) (w : World) : (Go.sizeOf e).run P w = .ok 1 w := by
  have hs := h.one
  cases hq : P.info? e with
  | none => simp [hq] at hs
  | some i => simp [hq] at hs; simp [Go.sizeOf, typeInfo, hq, hs]
theorem ArrTy.zeroIs {P : Program} {t e : TypeId} {n : Nat} (h : ArrTy P t e n) : ZeroIs P t (.agg (Array.replicate n (.int .u8 0))) := zeroIs_of_info h.zero

def zerosL (n : Nat) : List UInt8 := List.replicate n 0
theorem zerosA (n : Nat) : Array.replicate n (Value.int .u8 0) = (bytesU (zerosL n)).toArray := by simp [bytesU, zerosL]
theorem one_bytesU (l : List UInt8) : (bytesU l).toArray.all (·.oneCell') = true := by simp [bytesU, Value.oneCell']

section
variable {P : Program} {ops : Array Oper} {rest : List Oper} {a : Act} {w : World} {Q : Exit → Act → World → Prop} {dst : Option Tmp} {ty : TypeId} {pos : String} {aft : Array Edge}

theorem run_eql_arr {t e : TypeId} {n : Nat} (h : ArrTy P t e n) (xs ys : List UInt8) (hx : xs.length = n) (hy : ys.length = n) (w : World) :
    (binOp .eql t (.agg (bytesU xs).toArray) (.agg (bytesU ys).toArray)).run P w = .ok (.bool (xs == ys)) w :=
  run_eql_bytes w t e n h.arr h.el h.sizeOf xs ys hx hy
theorem run_neq_arr {t e : TypeId} {n : Nat} (h : ArrTy P t e n) (xs ys : List UInt8) (hx : xs.length = n) (hy : ys.length = n) (w : World) :
    (binOp .neq t (.agg (bytesU xs).toArray) (.agg (bytesU ys).toArray)).run P w = .ok (.bool (!(xs == ys))) w := by
  rw [run_neq_struct, show (bytesU xs).toArray = (xs.map Extern.Stop.cell).toArray from rfl, show (bytesU ys).toArray = (ys.map Extern.Stop.cell).toArray from rfl, run_equalIn_bytes w 9998 t e n h.arr h.el h.sizeOf xs ys hx hy]
  rfl

theorem step_eql_arr {t e yt : TypeId} {n : Nat} (h : ArrTy P t e n) {x y : Operand} (xs ys : List UInt8) (hx : xs.length = n) (hy : ys.length = n) (ex : a.eval x = .agg (bytesU xs).toArray) (ey : a.eval y = .agg (bytesU ys).toArray)
    (hk : wpList P ops Q rest (a.put dst (.bool (xs == ys))) w) : wpList P ops Q (⟨dst, .binOp .eql t x y yt, ty, pos, aft, none⟩ :: rest) a w := by
  refine step_value ?_ hk
  simp only [execOp, ex, ey, Sem.run_bind, run_eqGuard_agg (P := P) w .eql t x y _ _ h.guard, Result.andThen_ok, run_eql_arr h xs ys hx hy w, Sem.run_pure]
theorem step_neq_arr {t e yt : TypeId} {n : Nat} (h : ArrTy P t e n) {x y : Operand} (xs ys : List UInt8) (hx : xs.length = n) (hy : ys.length = n) (ex : a.eval x = .agg (bytesU xs).toArray) (ey : a.eval y = .agg (bytesU ys).toArray)
    (hk : wpList P ops Q rest (a.put dst (.bool (!(xs == ys)))) w) : wpList P ops Q (⟨dst, .binOp .neq t x y yt, ty, pos, aft, none⟩ :: rest) a w := by
  refine step_value ?_ hk
  simp only [execOp, ex, ey, Sem.run_bind, run_eqGuard_agg (P := P) w .neq t x y _ _ h.guard, Result.andThen_ok, run_neq_arr h xs ys hx hy w, Sem.run_pure]

theorem step_eql_is {t e yt : TypeId} {n : Nat} (h : ArrTy P t e n) {x y : Operand} {r : Bool} (xs ys : List UInt8) (hr : (xs == ys) = r) (hx : xs.length = n) (hy : ys.length = n) (ex : a.eval x = .agg (bytesU xs).toArray) (ey : a.eval y = .agg (bytesU ys).toArray)
    (hk : wpList P ops Q rest (a.put dst (.bool r)) w) : wpList P ops Q (⟨dst, .binOp .eql t x y yt, ty, pos, aft, none⟩ :: rest) a w :=
  step_eql_arr h xs ys hx hy ex ey (hr ▸ hk)
theorem step_neq_is {t e yt : TypeId} {n : Nat} (h : ArrTy P t e n) {x y : Operand} {r : Bool} (xs ys : List UInt8) (hr : (!(xs == ys)) = r) (hx : xs.length = n) (hy : ys.length = n) (ex : a.eval x = .agg (bytesU xs).toArray) (ey : a.eval y = .agg (bytesU ys).toArray)
    (hk : wpList P ops Q rest (a.put dst (.bool r)) w) : wpList P ops Q (⟨dst, .binOp .neq t x y yt, ty, pos, aft, none⟩ :: rest) a w :=
  step_neq_arr h xs ys hx hy ex ey (hr ▸ hk)

theorem step_build0 {t e : TypeId} {n : Nat} (h : ArrTy P t e n) (hk : wpList P ops Q rest (a.put dst (.agg (bytesU (zerosL n)).toArray)) w) :
    wpList P ops Q (⟨dst, .build t #[], ty, pos, aft, none⟩ :: rest) a w := by
  refine step_value ?_ (by rw [← zerosA] at hk; exact hk)
  have hz := h.zeroIs w
  simp [execOp, Instr.build, hz, run_underlying h.arr, h.sizeOf, Instr.fill, Value.cells]

theorem step_load_arr {t e : TypeId} {n : Nat} {x : Operand} {b : Nat} {cs : Array Value} {T : TypeId} (h : ArrTy P t e n) (hb : Blk w b cs T) (hx : a.eval x = .pointer (some ⟨b, 0, none⟩)) (hn : cs.size = n)
    (hk : wpList P ops Q rest (a.put dst (.agg cs)) w) : wpList P ops Q (⟨dst, .load t x, ty, pos, aft, none⟩ :: rest) a w :=
  step_load_agg (off := 0) hx hb h.arr h.size (by simp [← hn]) (by omega) hk

theorem step_store_row {t : TypeId} {x y : Operand} {b : Nat} {old cs : Array Value} {T : TypeId} (ex : a.eval x = .pointer (some ⟨b, 0, none⟩)) (ey : a.eval y = .agg cs) (hb : Blk w b old T)
    (hi : (P.info? t).map (·.size) = some cs.size) (ho : old.size = cs.size) (h1 : cs.all (·.oneCell') = true) (hk : wpList P ops Q rest (a.put dst undef) (w.setRow b cs)) :
    wpList P ops Q (⟨dst, .store t x y, ty, pos, aft, none⟩ :: rest) a w :=
  wpList_store_row rfl t x y rfl b cs ex ey T old hb hi ho h1 hk
end

theorem _root_.Go.Proofs.YtodjcgkbcbaadaaDoor.Mem.Blk.setRow {w : World} {b : Nat} {cs : Array Value} {T : TypeId} (h : Blk w b cs T) (cs' : Array Value) : Blk (w.setRow b cs') b cs' T := setRow_heap w b cs cs' T _ h
theorem _root_.Go.Proofs.YtodjcgkbcbaadaaDoor.Mem.Blk.setRow_far {w : World} {b k : Nat} {cs : Array Value} {T : TypeId} (h : Blk w b cs T) (hk : b ≠ k) (cs' : Array Value) : Blk (w.setRow k cs') b cs T := by
  unfold Blk at *; rw [setRow_other w k b cs' hk]; exact h
theorem below_setRow {B : Nat} {a w : World} (h : Below B a w) {b : Nat} (hb : B ≤ b) (cs : Array Value) : Below B a (w.setRow b cs) :=
  h.trans ⟨rfl, rfl, rfl, by simp, fun k hk => setRow_other w b k cs (by omega)⟩

theorem results_ct2 {P : Program} {fn : Func} {p t u : Tmp} {ty e : TypeId} {n : Nat} (h : fn.results = #[.cell p ty, .tmp t, .tmp u]) (tmps : Array Value) (w : World) (g : Nat) (T : TypeId) (cs : Array Value)
    (hp : tmps.getD p undef = .pointer (some ⟨g, 0, none⟩)) (hg : Blk w g cs T) (hu : P.underlying ty = some (.array n e)) (hi : (P.info? ty).map (·.size) = some cs.size) :
    (results fn tmps).run P w = .ok (.tuple #[.agg cs, tmps.getD t undef, tmps.getD u undef]) w := by
  have hp' : tmps[p]?.getD undef = .pointer (some ⟨g, 0, none⟩) := by simpa using hp
  simp [results, h, hp', asAddr, run_loadVar_row w g T ty cs (0, 0) _ hg hu rfl hi]
theorem results_ct1 {P : Program} {fn : Func} {p t : Tmp} {ty e : TypeId} {n : Nat} (h : fn.results = #[.cell p ty, .tmp t]) (tmps : Array Value) (w : World) (g : Nat) (T : TypeId) (cs : Array Value)
    (hp : tmps.getD p undef = .pointer (some ⟨g, 0, none⟩)) (hg : Blk w g cs T) (hu : P.underlying ty = some (.array n e)) (hi : (P.info? ty).map (·.size) = some cs.size) :
    (results fn tmps).run P w = .ok (.tuple #[.agg cs, tmps.getD t undef]) w := by
  have hp' : tmps[p]?.getD undef = .pointer (some ⟨g, 0, none⟩) := by simpa using hp
  simp [results, h, hp', asAddr, run_loadVar_row w g T ty cs (0, 0) _ hg hu rfl hi]
end Go.Proofs.YtodjcgkbcbaadaaDoor.Ops
