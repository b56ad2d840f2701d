/- Steps, their order, lists of steps in memory. -/
import Derived.Test.YtoddjofckbfkhaaDoorProg
import Derived.Test.YtoddjofckbfkhaaDoorPl
import Derived.Test.YtoddjofckbfkhaaDoorRow
import Derived.WalkKit
namespace Go.Proofs.YtoddjofckbfkhaaDoor.Wy
open Go.RowKit Mem Ops
/-- Which of two numbers comes first. -/
def cmpZ (m n : Int) : Int := if m < n then -1 else if n < m then 1 else 0

/-- Which of two texts comes first. -/
def cmpT (s t : List UInt8) : Int := if Op.bytesLess s t then -1 else if s = t then 0 else 1
/-- The first that is not zero. -/
def orL : List Int → Int
  | [] => 0
  | a :: l => if a = 0 then orL l else a
/-- A step's cells. -/
structure St where
  kind : Int
  key : ByteArray
  num : Int
def St.cells (s : St) : List Value := [.int .u8 s.kind, .string s.key, .int .i64 s.num]
def cmpSt (s t : St) : Int := orL [cmpZ s.kind t.kind, cmpT s.key.toList t.key.toList, cmpZ s.num t.num]
theorem agg0 (w : World) : (isAgg 57).run Tryd.prog w = .ok false w := by simp [isAgg, run_underlying Tryd.underlying57]
theorem agg1 (w : World) : (isAgg 9).run Tryd.prog w = .ok false w := by simp [isAgg, run_underlying Tryd.underlying9]
theorem agg2 (w : World) : (isAgg 3).run Tryd.prog w = .ok false w := by simp [isAgg, run_underlying Tryd.underlying3]
theorem fld0 : FieldIs Tryd.prog 59 0 0 := fieldIs (n := 0) Tryd.underlying59 rfl (by kernel_rfl) rfl
theorem fld1 : FieldIs Tryd.prog 59 1 1 := fieldIs (n := 0) Tryd.underlying59 rfl (by kernel_rfl) rfl
theorem fld2 : FieldIs Tryd.prog 59 2 2 := fieldIs (n := 0) Tryd.underlying59 rfl (by kernel_rfl) rfl

/-- A slice's elements are these steps. -/
def Sts (w : World) (a : Option Addr) (l : List St) : Prop := Row w a (l.flatMap St.cells)
def st0 : St := ⟨0, ⟨#[]⟩, 0⟩
theorem length_cells (s : St) : s.cells.length = 3 := rfl
theorem Sts.below {w w' : World} {a : Option Addr} {l : List St} (h : Sts w a l) (k : Below w.heap.size w w') : Sts w' a l := Row.below h k
theorem flat_at : ∀ (l : List St) (i j : Nat), i < l.length → j < 3 → (l.flatMap St.cells)[i * 3 + j]? = (l.getD i st0).cells[j]?
  | [], i, _, hi, _ => by simp at hi
  | h :: l, 0, j, _, hj => by
    rw [List.flatMap_cons, List.getElem?_append_left (by rw [length_cells]; omega)]; simp
  | h :: l, i + 1, j, hi, hj => by
    rw [List.flatMap_cons, List.getElem?_append_right (by rw [length_cells]; omega)]
    have := flat_at l i j (by simpa using hi) hj
    rw [length_cells, show (i + 1) * 3 + j - 3 = i * 3 + j from by omega, this]
    simp
theorem length_flat : ∀ l : List St, (l.flatMap St.cells).length = l.length * 3
  | [] => rfl
  | h :: l => by
    have := length_flat l
    simp only [List.flatMap_cons, List.length_append, this, List.length_cons, length_cells]; omega
theorem Sts.addr {w : World} {a : Option Addr} {l : List St} (h : Sts w a l) (hp : 0 < l.length) : ∃ b off, a = some ⟨b, off, none⟩ ∧ b < w.heap.size ∧ ∀ i, i < l.length → w.rangeAt b (off + i * 3) (l.getD i st0).cells := by
  obtain ⟨b, off, ha, hb, hc⟩ := Row.addr h (by rw [length_flat]; omega)
  refine ⟨b, off, ha, hb, fun i hi j v hv => ?_⟩
  have hj : j < 3 := by
    rcases Nat.lt_or_ge j 3 with k | k
    · exact k
    · rw [List.getElem?_eq_none (by rw [length_cells]; exact k)] at hv; cases hv
  rw [Nat.add_assoc]
  exact hc _ _ ((flat_at l i j hi hj).trans hv)
theorem rangeAt_below {w w' : World} {b o : Nat} {cs : List Value} (h : w.rangeAt b o cs) (k : Below w.heap.size w w') (hb : b < w.heap.size) : w'.rangeAt b o cs :=
  fun j v hv => (k.cell (p := ⟨b, o + j, none⟩) hb).trans (h j v hv)
theorem Sts.left {w : World} {a : Option Addr} {l m : List St} (h : Sts w a (l ++ m)) : Sts w a l := by
  have := Row.take h (l.flatMap St.cells).length
  rw [List.flatMap_append, List.take_left'] at this
  · exact this
  · rfl
/-- Which of two ways comes first. -/
def cmpW : List St → List St → Int
  | [], [] => 0
  | [], _ :: _ => -1
  | _ :: _, [] => 1
  | s :: l, t :: m => if cmpSt s t = 0 then cmpW l m else cmpSt s t
theorem cmpW_drop (l m : List St) (k : Nat) (hk : k < l.length) (hm : k < m.length) : cmpW (l.drop k) (m.drop k) = if cmpSt (l.getD k st0) (m.getD k st0) = 0 then cmpW (l.drop (k + 1)) (m.drop (k + 1)) else cmpSt (l.getD k st0) (m.getD k st0) := by
  rw [List.drop_eq_getElem_cons hk, List.drop_eq_getElem_cons hm, cmpW]; simp [hk, hm]
end Go.Proofs.YtoddjofckbfkhaaDoor.Wy
