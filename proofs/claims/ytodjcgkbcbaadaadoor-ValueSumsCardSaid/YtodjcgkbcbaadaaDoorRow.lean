/- Rows of cells that a slice leads to; texts and bytes. Over any program. -/
import Derived.Test.YtodjcgkbcbaadaaDoorMem
import Derived.Laws.BytesArg
namespace Go.Proofs.YtodjcgkbcbaadaaDoor.Mem
open Go.RowKit

/-- A slice's cells lie there: from its address on just these. -/
def Row (w : World) (a : Option Addr) (vs : List Value) : Prop :=
  vs = [] ∨ ∃ b off, a = some ⟨b, off, none⟩ ∧ b < w.heap.size ∧ ∀ i v, vs[i]? = some v → w.cell? ⟨b, off + i, none⟩ = some v
def bytesU (l : List UInt8) : List Value := l.map fun c => Value.int .u8 (c.toNat : Int)
@[simp] theorem length_bytesU (l : List UInt8) : (bytesU l).length = l.length := by simp [bytesU]
theorem bytesU_get (l : List UInt8) (k : Nat) (h : k < l.length) : (bytesU l)[k]? = some (.int .u8 ((l.getD k 0).toNat : Int)) := by
  simp [bytesU, h]
theorem bytesU_take (l : List UInt8) (k : Nat) : (bytesU l).take k = bytesU (l.take k) := by simp [bytesU]
theorem bytesU_append (l m : List UInt8) : bytesU (l ++ m) = bytesU l ++ bytesU m := by simp [bytesU]

theorem Row.below {w w' : World} {a : Option Addr} {vs : List Value} (h : Row w a vs) (k : Below w.heap.size w w') : Row w' a vs := by
  rcases h with h | ⟨b, off, ha, hb, hc⟩
  · exact .inl h
  · exact .inr ⟨b, off, ha, Nat.lt_of_lt_of_le hb k.size, fun i v hi => (k.cell (p := ⟨b, off + i, none⟩) hb).trans (hc i v hi)⟩
theorem Row.take {w : World} {a : Option Addr} {vs : List Value} (h : Row w a vs) (n : Nat) : Row w a (vs.take n) := by
  rcases h with h | ⟨b, off, ha, hb, hc⟩
  · exact .inl (by simp [h])
  · refine .inr ⟨b, off, ha, hb, fun i v hi => hc i v ?_⟩
    rw [List.getElem?_take] at hi
    split at hi
    · exact hi
    · cases hi
theorem Row.nil (w : World) (a : Option Addr) : Row w a [] := .inl rfl
theorem Blk.row {w : World} {b : Nat} {cs : Array Value} {T : TypeId} (h : Blk w b cs T) {vs : List Value} (off : Nat) (hv : ∀ i v, vs[i]? = some v → cs[off + i]? = some v) : Row w (some ⟨b, off, none⟩) vs :=
  .inr ⟨b, off, rfl, h.lt, fun i v hi => (h.cell _).trans (hv i v hi)⟩
theorem Row.addr {w : World} {a : Option Addr} {vs : List Value} (h : Row w a vs) (hp : 0 < vs.length) : ∃ b off, a = some ⟨b, off, none⟩ ∧ b < w.heap.size ∧ ∀ i v, vs[i]? = some v → w.cell? ⟨b, off + i, none⟩ = some v := by
  rcases h with h | h
  · simp [h] at hp
  · exact h

theorem str_of (bs : List UInt8) : strOfNums (bs.map fun c => (c.toNat : Int)) = ⟨bs.toArray⟩ := by
  simp [strOfNums]
  congr 1
  simp [Function.comp_def]

/-- Bytes turned into a text. -/
theorem run_str {P : Program} {w : World} {a : Option Addr} {bs : List UInt8} (h : Row w a (bytesU bs)) (src e dst : TypeId) (hs : P.underlying src = some (.slice e)) (he : P.underlying e = some (.int .u8)) (hd : P.underlying dst = some .string)
    (n cap : Nat) (hn : n = bs.length) : (convert src dst (.slice a n cap)).run P w = .ok (.string ⟨bs.toArray⟩) w := by
  subst hn
  rcases h with h | ⟨b, off, rfl, _, hc⟩
  · obtain rfl : bs = [] := by simpa [bytesU] using h
    rcases a with _ | a
    · exact run_convert_bytes_nil w src e hs he 0 cap dst hd
    · have hl : (loadCells a 0).run P w = .ok (([] : List Int).map (Value.int .u8)).toArray w := by simp [loadCells, loadCellsFrom]
      have := run_convert_bytes_string w src dst e (some a) 0 cap hs he hd
      rw [show ([] : List UInt8).length = 0 from rfl, this, run_bytesToString w a 0 cap [] hl]
      rfl
  · rw [run_convert_bytes_arg w src e hs he b off bs.length cap (bs.map fun c => (c.toNat : Int)) (by simp) (fun i hi => ?_) dst hd, str_of]
    rw [hc i _ (bytesU_get bs i hi)]
    simp [hi]

end Go.Proofs.YtodjcgkbcbaadaaDoor.Mem
