/- A new slice of hashes, hashes written into it, built hashes; marked lists. Over any program. -/
import Derived.Test.YtdanbjpfojgmiaaLeadX
import Derived.Laws.MakeOwn
namespace Go.Proofs.Ytdanbjpfojgmiaa.Mem
open Go.RowKit
theorem hs_of_ranges {w : World} {b : Nat} {L : List (List UInt8)} (hb : b < w.heap.size) (hL : ∀ h ∈ L, h.length = 32) (hr : ∀ i, i < L.length → w.rangeAt b (i * 32) (bytesU (L.getD i []))) : Hs w (some ⟨b, 0, none⟩) L := by
  refine ⟨.inr ⟨b, 0, rfl, hb, fun i v hv => ?_⟩, hL⟩
  have hi : i < L.length * 32 := by
    rcases Nat.lt_or_ge i (L.length * 32) with k | k
    · exact k
    · rw [List.getElem?_eq_none (by rw [length_flat L hL]; exact k)] at hv; cases hv
  have h1 : i / 32 < L.length := by omega
  have h2 : i % 32 < 32 := by omega
  have h3 := flat_at L hL (i / 32) (i % 32) h1 h2
  rw [show i / 32 * 32 + i % 32 = i from by omega] at h3
  have h4 := hr (i / 32) h1 (i % 32) v (by rw [← h3]; exact hv)
  rw [show i / 32 * 32 + i % 32 = i from by omega] at h4
  rw [Nat.zero_add]; exact h4
theorem Hs.left {w : World} {a : Option Addr} {l m : List (List UInt8)} (h : Hs w a (l ++ m)) : Hs w a l := by
  refine ⟨?_, fun x hx => h.2 x (by simp [hx])⟩
  have := h.1.take (l.flatMap bytesU).length
  rw [List.flatMap_append, List.take_left'] at this
  · exact this
  · rfl
theorem below_setCells {B : Nat} {a : World} {b : Nat} (hb : B ≤ b) : ∀ (vs : List Value) (o : Nat) (w : World), Below B a w → Below B a (w.setCells b o vs)
  | [], _, _, h => h
  | v :: vs, o, _, h => below_setCells hb vs (o + 1) _ (h.setCell (p := ⟨b, o, none⟩) hb v)
end Go.Proofs.Ytdanbjpfojgmiaa.Mem
namespace Go.Proofs.Ytdanbjpfojgmiaa.Ops
open Go.RowKit Mem
section
variable {P : Program} {ops : Array Oper} {rest : List Oper} {a : Act} {w : World} {Q : Exit → Act → World → Prop} {dst : Option Tmp} {ty : TypeId} {pos : String} {aft : Array Edge} {gd : Option (Nat × Bool)}
theorem pl_store_range {t e : TypeId} {n : Nat} {x y : Operand} {b o : Nat} {h : List UInt8} (h0 : ArrTy P t e n) (ht : w.there b o n) (hn : h.length = n) (hw : Region.wanted ⟨dst, .store t x y, ty, pos, aft, gd⟩ (yielded ops a.tmps) = true)
    (ex : a.eval x = .pointer (some ⟨b, o, none⟩)) (ey : a.eval y = .agg (bytesU h).toArray) (hk : wpList P ops Q rest (a.put dst undef) (w.setCells b o (bytesU h))) :
    wpList P ops Q (⟨dst, .store t x y, ty, pos, aft, gd⟩ :: rest) a w := by
  refine pl_unit hw ?_ hk
  have := run_storeAt_mid (P := P) w b o t (bytesU h).toArray (by simpa [hn] using ht) (by rw [h0.size]; simp [hn]) (one_bytesU _)
  simp [execOp, ex, ey, this]
theorem pl_make {t e : TypeId} {i : TypeInfo} {z : Value} {x : Operand} {m : Nat} (ht : P.underlying t = some (.slice e)) (hi : P.info? e = some i) (hz : i.zero = some z) (hb : (i.bytes : Int) * m ≤ 281474976710656) (hm : (m : Int) ≤ 9223372036854775807)
    (hw : Region.wanted ⟨dst, .makeSlice t x x, ty, pos, aft, gd⟩ (yielded ops a.tmps) = true) (ex : a.eval x = .int .i64 (m : Int))
    (hk : wpList P ops Q rest (a.put dst (.slice (some ⟨w.heap.size, 0, none⟩) m m)) (w.alloc (.cells (madeCells z.cells (m * i.size)) e))) :
    wpList P ops Q (⟨dst, .makeSlice t x x, ty, pos, aft, gd⟩ :: rest) a w := by
  refine pl_value hw ?_ hk
  have := run_make (P := P) w t e i z ht hi hz .i64 .i64 (m : Int) (m : Int) (by omega) (Int.le_refl _) hb hm
  simp [execOp, ex, this]
theorem rl_build2 {t e : TypeId} {n : Nat} (h : ArrTy P t e (n + 2)) {x y : Operand} {c d : UInt8} (ex : a.eval x = .int .u8 (c.toNat : Int)) (ey : a.eval y = .int .u8 (d.toNat : Int)) :
    (execOp a.eval ⟨dst, .build t #[(0, x), (1, y)], ty, pos, aft, gd⟩).run P w = .ok (.value (.agg (bytesU (c :: d :: zerosL n)).toArray)) w := by
  have hz := h.zeroIs w
  simp [execOp, Instr.build, hz, run_underlying h.arr, h.sizeOf, Instr.fill, Value.cells, ex, ey]
  rw [if_neg (by omega)]
  simp
  rw [← List.toArray_replicate, List.replicate_succ, List.replicate_succ]
  simp [bytesU, zerosL]
theorem pl_build2 {t e : TypeId} {n : Nat} (h : ArrTy P t e (n + 2)) {x y : Operand} {c d : UInt8} {m k : Int} (hm : m = (c.toNat : Int)) (hk : k = (d.toNat : Int)) (hw : Region.wanted ⟨dst, .build t #[(0, x), (1, y)], ty, pos, aft, gd⟩ (yielded ops a.tmps) = true)
    (ex : a.eval x = .int .u8 m) (ey : a.eval y = .int .u8 k) (hq : wpList P ops Q rest (a.put dst (.agg (bytesU (c :: d :: zerosL n)).toArray)) w) : wpList P ops Q (⟨dst, .build t #[(0, x), (1, y)], ty, pos, aft, gd⟩ :: rest) a w := by
  subst hm hk
  exact pl_value hw (rl_build2 h ex ey) hq
end
end Go.Proofs.Ytdanbjpfojgmiaa.Ops
