/- The walk of digest.Hex. -/
import Derived.Test.YtdanbjpfojgmiaaOps
import Derived.Test.YtdanbjpfojgmiaaRows
import Derived.Test.YtdanbjpfojgmiaaHexL
import Derived.WalkSpells
import Derived.Deep.DeepCutAuto
import Derived.WalkLawsBesides
namespace Go.Proofs.Ytdanbjpfojgmiaa.Dg
open Go.RowKit Mem Ops

def Z64 : Array Value := Array.replicate 64 (.int .u8 0)
theorem zero47 : ZeroIs Try.prog 47 (.agg Z64) := zeroIs_of_info (n := 64) (by kernel_rfl)
theorem isAgg5 (w : World) : (isAgg 5).run Try.prog w = .ok false w := by simp [isAgg, run_underlying Try.underlying5]
theorem info5 : (Try.prog.info? 5).map (·.size) = some 1 := by kernel_rfl
theorem info27 : (Try.prog.info? 27).map (·.size) = some 32 := by kernel_rfl

set_option maxHeartbeats 400000 in
theorem hex_calls (h : List UInt8) (w : World) (hh : h.length = 32) :
    Calls Try.prog 9 #[.agg (bytesU h).toArray] w fun e w' => e = .returned (.string ⟨(hexL h).toArray⟩) ∧ Below w.heap.size w w' := by
  obtain ⟨A, hAe⟩ : ∃ A, A = (bytesU h).toArray := ⟨_, rfl⟩
  have hA : A.size = 32 := by rw [hAe]; simp [bytesU, hh]
  have HA := Lib.hid hAe
  rw [← hAe]
  clear hAe
  go_enter Try.func9, Try.ntmps9
  go_wp2_with (first
    | (with_reducible refine step_alloc zero47 ?_)
    | ((with_reducible refine step_load_agg (t := 27) (n := 32) (e := 5) (b := w.heap.size) (off := 0) (C := A) (T := 27) (fr := (0, 0)) (cs := A) ?_ ?_ Try.underlying27 info27 ?_ ?_ ?_); (· rfl); (· exact heap_alloc2_old _ _ _); (· simp [hA]); (· omega)))
  go_loopw [7] (fun i wr => ∃ k : Nat, k ≤ 32 ∧ i = .int .i64 k ∧ Blk wr (w.heap.size + 1) (hexPart h k) 47 ∧ Below w.heap.size w wr) (fun i _ => 32 - (intOf i).toNat)
  case atStart => exact ⟨0, Nat.zero_le _, rfl, by rw [hexPart_0]; exact heap_alloc2_new _ _ _, ((Below.refl _ _).alloc (Nat.le_refl _) _).alloc (by simp) _⟩
  case round =>
    obtain ⟨k, hk, rfl, hB, hbel⟩ := hrel
    by_cases hlt : k < 32
    · have gA : A[k]? = some (.int .u8 ((h.getD k 0).toNat : Int)) := by
        rw [HA.out]; simp [bytesU, show k < h.length by omega]
      generalize hc : h.getD k 0 = c at *
      have HC := Lib.hid hc
      clear hc
      have c0 : wr.cell? ⟨w.heap.size + 1, 2 * k, none⟩ = some (.int .u8 0) := by rw [hB.cell]; exact hexPart_get h hh k _ (by omega) (by omega)
      have c1 : wr.cell? ⟨w.heap.size + 1, 2 * k + 1, none⟩ = some (.int .u8 0) := by rw [hB.cell]; exact hexPart_get h hh k _ (by omega) (by omega)
      have f0 : wr.frozen? ⟨w.heap.size + 1, 2 * k, none⟩ = false := hB.frozen _
      have f1 : wr.frozen? ⟨w.heap.size + 1, 2 * k + 1, none⟩ = false := hB.frozen _
      have hcl := c.toNat_lt
      go_wp2_with ((with_reducible refine step_index_arr (n := 32) (k := .i64) (i := k) (cs := A) Try.underlying27 info5 isAgg5 ?_ ?_ hlt gA ?_); (· rfl); (· rfl))
      go_roundw
      case rel => exact ⟨k + 1, by omega, by go_num, by
        rw [digit_at _ (by omega), digit_at _ (by omega), ← hexPart_step h hh k hlt c HC.out]
        exact (hB.set _ _).set _ _, (hbel.setCell (by simp) _).setCell (by simp) _⟩
      case measure => simp [intOf]; omega
    · obtain rfl : k = 32 := by omega
      have hrow : Row wr (some ⟨w.heap.size + 1, 0, none⟩) (bytesU (hexL h)) := hB.row 0 (fun i v hv => by rw [hexPart_full h hh]; simpa using hv)
      have hstr := run_str (P := Try.prog) hrow 22 5 9 Try.underlying22 Try.underlying5 Try.underlying9 64 64 (by rw [length_hexL, hh])
      go_wp2
      go_ret
      exact ⟨rfl, hbel⟩
end Go.Proofs.Ytdanbjpfojgmiaa.Dg
