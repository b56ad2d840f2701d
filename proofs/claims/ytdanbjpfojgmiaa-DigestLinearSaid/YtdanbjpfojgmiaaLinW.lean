/- The walk of estuarylaw01.DigestLinear. -/
import Derived.Test.YtdanbjpfojgmiaaCrcW
import Derived.Deep.DeepCutAuto
import Derived.Deep.RegionHeld3
import Derived.BigRegion
import Derived.Lib.SlBytesConst
import Derived.Deep.RegionWith
import Derived.Deep.LoopGhost
namespace Go.Proofs.Ytdanbjpfojgmiaa.Dg
open Go.RowKit Mem

def zeros (n : Nat) : Array Value := Array.replicate n (.int .u8 0)
def bytesV (bs : List (BitVec 8)) : List Value := bs.map fun c => Value.int .u8 (c.toNat : Int)
/-- After k rounds: k sums, then zeros. -/
def xs3 (a b c : List (BitVec 8)) : List (BitVec 8) := List.zipWith (· ^^^ ·) (List.zipWith (· ^^^ ·) a b) c
def part (x : List (BitVec 8)) (n k : Nat) : Array Value := (bytesV (x.take k) ++ List.replicate (n - k) (Value.int .u8 0)).toArray

theorem heap_lt {w : World} {b : Nat} {o : Obj} (h : w.heap[b]? = some o) : b < w.heap.size := by
  rcases Nat.lt_or_ge b w.heap.size with k | k
  · exact k
  · rw [Array.getElem?_eq_none k] at h; cases h
theorem cell_of_heap {w : World} {b : Nat} {cs : Array Value} {T : TypeId} {fr : Nat × Nat} (h : w.heap[b]? = some (.cells cs T fr)) (i : Nat) : w.cell? ⟨b, i, none⟩ = cs[i]? := by
  simp [World.cell?, h]
theorem heap_new (w : World) (o : Obj) : (w.alloc o).drew.heap[w.heap.size]? = some o := by
  show (w.heap.push o)[w.heap.size]? = _; simp
theorem run_mk (n : Nat) (w : World) (hn : n ≤ 140737488351232) :
    (Instr.makeSlice 22 (.int .i64 n) (.int .i64 n)).run Try.prog w = .ok (.slice (some ⟨w.heap.size, 0, none⟩) n n) (w.alloc (.cells (zeros n) 5)) := by
  have hi : (Try.prog.info? 5).map (fun i => (i.zero, i.size, i.bytes)) = some (some (.int .u8 0), 1, 1) := by kernel_rfl
  obtain ⟨i, hi, hz, hs, hb⟩ := info_parts hi
  have h := run_make (P := Try.prog) w 22 5 i (.int .u8 0) Try.underlying22 hi hz .i64 .i64 n n (by omega) (by omega) (by rw [hb]; omega) (by omega)
  rw [h]
  simp only [Int.toNat_natCast]
  congr 3
  rw [hs]
  simp only [zeros, madeCells, Value.cells]
  apply Array.ext
  · simp
  · intro i h1 h2
    simp [Nat.mod_one]

theorem part_get (x : List (BitVec 8)) (n k : Nat) (hx : n ≤ x.length) (hk : k < n) : (part x n k)[k]? = some (.int .u8 0) := by
  have h1 : (bytesV (x.take k)).length = k := by simp [bytesV]; omega
  simp only [part, List.getElem?_toArray]
  rw [List.getElem?_append_right (by omega), h1, Nat.sub_self, List.getElem?_replicate, if_pos (by omega)]
theorem part_set (x : List (BitVec 8)) (n k : Nat) (hx : n ≤ x.length) (hk : k < n) : (part x n k).setIfInBounds k (.int .u8 ((x.getD k 0).toNat : Int)) = part x n (k + 1) := by
  have h1 : (bytesV (x.take k)).length = k := by simp [bytesV]; omega
  have h2 : n - k = (n - (k + 1)) + 1 := by omega
  simp only [part, List.setIfInBounds_toArray]
  rw [List.set_append_right _ _ (by omega), h1, Nat.sub_self, h2, List.replicate_succ, List.set_cons_zero, List.take_succ_eq_append_getElem (by omega)]
  simp only [bytesV, List.map_append, List.append_assoc, List.map_cons, List.map_nil, List.singleton_append]
  simp [List.getD_eq_getElem?_getD, show k < x.length from by omega]
theorem part_full (x : List (BitVec 8)) (n : Nat) : part x n n = (bytesV (x.take n)).toArray := by simp [part]
theorem xor_u8_bv (x y : BitVec 8) : bits .xor .u8 (x.toNat : Int) (y.toNat : Int) = ((x ^^^ y).toNat : Int) := by
  rw [u8_xor_nat _ _ x.isLt y.isLt, BitVec.toNat_xor]

theorem xor3_u8 (x y z : BitVec 8) : bits .xor .u8 ((x.toNat ^^^ y.toNat : Nat) : Int) (z.toNat : Int) = ((x ^^^ y ^^^ z).toNat : Int) := by
  rw [← BitVec.toNat_xor, xor_u8_bv]
attribute [local go_sem] xor_u8_bv
set_option maxHeartbeats 1000000 in
theorem lin_calls (a0 a1 a2 : Option Addr) (b0 b1 b2 : List (BitVec 8)) (l0 l1 l2 c0 c1 c2 : Nat) (w : World)
    (h0 : BytesAt w a0 b0) (h1 : BytesAt w a1 b1) (h2 : BytesAt w a2 b2) (e0 : l0 = b0.length) (e1 : l1 = b1.length) (e2 : l2 = b2.length)
    (hl0 : l0 ≤ 140737488351232) (hc0 : l0 ≤ c0) (hc1 : l1 ≤ c1) (hc2 : l2 ≤ c2) :
    Calls Try.prog 3 #[.slice a0 l0 c0, .slice a1 l1 c1, .slice a2 l2 c2] w fun e w' => e = .returned (.bool true) ∧ Below w.heap.size w w' := by
  obtain ⟨m, hm⟩ : ∃ m, m = min l0 l1 := ⟨_, rfl⟩
  obtain ⟨n, hn⟩ : ∃ n, n = min m l2 := ⟨_, rfl⟩
  have n0 : n ≤ l0 := by omega
  have n1 : n ≤ l1 := by omega
  have n2 : n ≤ l2 := by omega
  have Hm := Lib.hid hm
  have Hn := Lib.hid hn
  have E0 := Lib.hid e0
  have E1 := Lib.hid e1
  have E2 := Lib.hid e2
  clear hn hm e0 e1 e2
  have kc := fun (w : World) (C : Array Value) (n c : Nat) => Lib.run_convert_bytes_const (P := Try.prog) w 22 5 C n c Try.underlying22 Try.underlying5
  have kd : ∀ (w : World) (C : Array Value) (n c : Nat), (convert 22 22 (.slice (some ⟨w.heap.size, 0, none⟩) n c)).run Try.prog (w.alloc (.cells C 5)).drew = .ok (.slice (some ⟨w.heap.size, 0, none⟩) n c) (w.alloc (.cells C 5 (C.size, C.size + 1))).drew := fun w C n c => kc w.drew C n c
  clear kc
  go_enter Try.func3, Try.ntmps3
  go_upto_if 15 with fail
  go_cut [7] (fun v wx => v = .int .i64 m ∧ w = wx)
  case first =>
    go_wp2_with fail
    all_goals (go_meet; case rel => exact ⟨by have := Hm.out; simp; omega, rfl⟩)
  case rest =>
  obtain ⟨rfl, rfl⟩ := hcut
  go_upto_if 21 with fail
  go_cut [7] (fun v wx => v = .int .i64 n ∧ w = wx)
  case first =>
    go_wp2_with fail
    all_goals (go_meet; case rel => exact ⟨by have := Hn.out; simp; omega, rfl⟩)
  case rest =>
  obtain ⟨rfl, rfl⟩ := hcut
  have hmk := run_mk n w (by omega)
  go_wp2
  have hB0 := Blk.new w (zeros n) 5
  have hbel0 := (Below.refl w.heap.size w).alloc (Nat.le_refl _) (.cells (zeros n) 5)
  have hx0 : zeros n = part (xs3 b0 b1 b2) n 0 := by simp [zeros, part, bytesV]
  rw [hx0] at hB0
  clear hx0 hmk
  have hxl : n ≤ (xs3 b0 b1 b2).length := by have := E0.out; have := E1.out; have := E2.out; simp [xs3]; omega
  go_loopw [9] (fun i wr => ∃ k : Nat, k ≤ n ∧ i = .int .i64 k ∧ Blk wr w.heap.size (part (xs3 b0 b1 b2) n k) 5 ∧ Below w.heap.size w wr) (fun i _ => n - (intOf i).toNat)
  case atStart => exact ⟨0, Nat.zero_le _, rfl, hB0, hbel0⟩
  case round =>
    clear hB0 hbel0
    obtain ⟨k, hk, rfl, hB, hbel⟩ := hrel
    by_cases hlt : k < n
    · rcases h0 with h0 | ⟨p0, o0, rfl, hp0, g0⟩
      · subst h0; have := E0.out; simp at this; omega
      rcases h1 with h1 | ⟨p1, o1, rfl, hp1, g1⟩
      · subst h1; have := E1.out; simp at this; omega
      rcases h2 with h2 | ⟨p2, o2, rfl, hp2, g2⟩
      · subst h2; have := E2.out; simp at this; omega
      have q0 := (hbel.cell (p := ⟨p0, o0 + k, none⟩) hp0).trans (g0 k (by have := E0.out; omega))
      have q1 := (hbel.cell (p := ⟨p1, o1 + k, none⟩) hp1).trans (g1 k (by have := E1.out; omega))
      have q2 := (hbel.cell (p := ⟨p2, o2 + k, none⟩) hp2).trans (g2 k (by have := E2.out; omega))
      have r0 : (k : Int) < (l0 : Int) := by omega
      have r1 : (k : Int) < (l1 : Int) := by omega
      have r2 : (k : Int) < (l2 : Int) := by omega
      have r3 : (k : Int) < (n : Int) := by omega
      have r4 : (0 : Int) ≤ (k : Int) := by omega
      have hv : (xs3 b0 b1 b2).getD k 0 = b0.getD k 0 ^^^ b1.getD k 0 ^^^ b2.getD k 0 := by
        have e0 := E0.out; have e1 := E1.out; have e2 := E2.out
        simp [xs3, List.getElem?_zipWith, List.getD_eq_getElem?_getD, List.getElem?_eq_getElem (show k < b0.length by omega), List.getElem?_eq_getElem (show k < b1.length by omega), List.getElem?_eq_getElem (show k < b2.length by omega)]
      have HV := Lib.hid hv
      clear hv
      generalize b0.getD k 0 = x at *
      generalize b1.getD k 0 = y at *
      generalize b2.getD k 0 = z at *
      have c3 : wr.cell? ⟨w.heap.size, k, none⟩ = some (.int .u8 0) := by rw [hB.cell k, part_get _ _ _ hxl hlt]
      have f3 : wr.frozen? ⟨w.heap.size, k, none⟩ = false := hB.frozen k
      go_wp2
      go_region
      go_wp2
      go_roundw
      case rel => exact ⟨k + 1, by omega, by go_num, by
        have := hB.set k (.int .u8 (((xs3 b0 b1 b2).getD k 0).toNat : Int))
        rw [part_set _ _ _ hxl hlt, HV.out] at this
        rw [xor3_u8]
        exact this.drew, (hbel.setCell (Nat.le_refl _) _).drew⟩
      case measure => simp [intOf]; omega
    · obtain rfl : k = n := by omega
      have t0 : BytesAt wr a0 (b0.take k) := (h0.below (hbel)).take k
      have t1 : BytesAt wr a1 (b1.take k) := (h1.below (hbel)).take k
      have t2 : BytesAt wr a2 (b2.take k) := (h2.below (hbel)).take k
      have tx : BytesAt wr (some ⟨w.heap.size, 0, none⟩) ((xs3 b0 b1 b2).take k) := by
        refine .inr ⟨_, 0, rfl, hB.lt, fun i hi => ?_⟩
        rw [Nat.zero_add, hB.cell, part_full]
        simp only [bytesV, List.getElem?_toArray, List.getElem?_map, List.getD_eq_getElem?_getD]
        rw [List.getElem?_eq_getElem hi]; rfl
      have hbel' := Lib.hid hbel
      have hxl' := Lib.hid hxl
      have C0 : ∀ w', Below wr.heap.size wr w' → Calls Try.prog 8 #[.slice a0 k c0] w' fun e w'' => e = .returned (.int .u32 ((crc (b0.take k)).toNat : Int)) ∧ w' = w'' := fun w' hw' => (crc_calls a0 (b0.take k) k c0 w' (by have := E0.out; simp; omega) (by simp; omega) (t0.below hw')).mono fun _ _ h => ⟨h.1, h.2.symm⟩
      have C1 : ∀ w', Below wr.heap.size wr w' → Calls Try.prog 8 #[.slice a1 k c1] w' fun e w'' => e = .returned (.int .u32 ((crc (b1.take k)).toNat : Int)) ∧ w' = w'' := fun w' hw' => (crc_calls a1 (b1.take k) k c1 w' (by have := E1.out; simp; omega) (by simp; omega) (t1.below hw')).mono fun _ _ h => ⟨h.1, h.2.symm⟩
      have C2 : ∀ w', Below wr.heap.size wr w' → Calls Try.prog 8 #[.slice a2 k c2] w' fun e w'' => e = .returned (.int .u32 ((crc (b2.take k)).toNat : Int)) ∧ w' = w'' := fun w' hw' => (crc_calls a2 (b2.take k) k c2 w' (by have := E2.out; simp; omega) (by simp; omega) (t2.below hw')).mono fun _ _ h => ⟨h.1, h.2.symm⟩
      have CX : ∀ w', Below wr.heap.size wr w' → Calls Try.prog 8 #[.slice (some ⟨w.heap.size, 0, none⟩) k k] w' fun e w'' => e = .returned (.int .u32 ((crc ((xs3 b0 b1 b2).take k)).toNat : Int)) ∧ w' = w'' := fun w' hw' => (crc_calls _ _ k k w' (by simp; omega) (by simp; omega) (tx.below hw')).mono fun _ _ h => ⟨h.1, h.2.symm⟩
      have hlin : bits .xor .u32 (bits .xor .u32 ((crc (b0.take k)).toNat : Int) ((crc (b1.take k)).toNat : Int)) ((crc (b2.take k)).toNat : Int) = ((crc ((xs3 b0 b1 b2).take k)).toNat : Int) := by
        have e0 := E0.out; have e1 := E1.out; have e2 := E2.out
        rw [xor_u32_bv, xor_u32_bv, ← crc_lin _ _ _ (by simp; omega) (by simp; omega)]
        simp [xs3, List.take_zipWith]
      generalize ((crc (b0.take k)).toNat : Int) = P at *
      generalize ((crc (b1.take k)).toNat : Int) = Q at *
      generalize ((crc (b2.take k)).toNat : Int) = R at *
      generalize ((crc ((xs3 b0 b1 b2).take k)).toNat : Int) = S at *
      have CK : ∀ w' b, w'.heap[b]? = some (.cells #[.int .u8 49, .int .u8 50, .int .u8 51, .int .u8 52, .int .u8 53, .int .u8 54, .int .u8 55, .int .u8 56, .int .u8 57] 5 (9, 10)) → Calls Try.prog 8 #[.slice (some ⟨b, 0, none⟩) 9 9] w' fun e w'' => e = .returned (.int .u32 3421780262) ∧ w' = w'' := fun w' b hb => (crc_calls _ [49#8, 50#8, 51#8, 52#8, 53#8, 54#8, 55#8, 56#8, 57#8] 9 9 w' rfl (by decide) (.inr ⟨b, 0, rfl, heap_lt hb, fun i hi => by
        rw [Nat.zero_add, cell_of_heap hb]
        match i, hi with
        | 0, _ | 1, _ | 2, _ | 3, _ | 4, _ | 5, _ | 6, _ | 7, _ | 8, _ => rfl
        | _ + 9, h => exact absurd h (by simp)⟩)).mono fun _ _ h => ⟨by rw [h.1, crc_known]; rfl, h.2.symm⟩
      have DK := Lib.hid CK
      clear CK
      have D0 := Lib.hid C0
      have D1 := Lib.hid C1
      have D2 := Lib.hid C2
      have DX := Lib.hid CX
      clear C0 C1 C2 CX t0 t1 t2 tx hxl hbel h0 h1 h2
      have r0 : (k : Int) ≤ (c0 : Int) := by omega
      have r1 : (k : Int) ≤ (c1 : Int) := by omega
      have r2 : (k : Int) ≤ (c2 : Int) := by omega
      have r4 : (0 : Int) ≤ (k : Int) := by omega
      go_wp2_with fail
      go_region_with (first
        | (go_at_call_of 8 (Value.slice (some ⟨wr.heap.size, 0, none⟩) 9 9); refine (DK.out _ _ (heap_new _ _)).mono ?_; rintro e w' ⟨rfl, rfl⟩)
        | (go_at_call_of 8 (Value.slice a0 k c0); refine (D0.out _ (by repeat (first | exact Below.refl _ _ | apply Below.drew | refine Below.alloc ?_ (by simp) _))).mono ?_; rintro e w' ⟨rfl, rfl⟩)
        | (go_at_call_of 8 (Value.slice a1 k c1); refine (D1.out _ (by repeat (first | exact Below.refl _ _ | apply Below.drew | refine Below.alloc ?_ (by simp) _))).mono ?_; rintro e w' ⟨rfl, rfl⟩)
        | (go_at_call_of 8 (Value.slice a2 k c2); refine (D2.out _ (by repeat (first | exact Below.refl _ _ | apply Below.drew | refine Below.alloc ?_ (by simp) _))).mono ?_; rintro e w' ⟨rfl, rfl⟩)
        | (go_at_call_of 8 (Value.slice (some ⟨w.heap.size, 0, none⟩) k k); refine (DX.out _ (by repeat (first | exact Below.refl _ _ | apply Below.drew | refine Below.alloc ?_ (by simp) _))).mono ?_; rintro e w' ⟨rfl, rfl⟩))
      go_wp2
      go_ret

      exact ⟨rfl, (hbel'.out.alloc hbel'.out.size _).drew⟩
end Go.Proofs.Ytdanbjpfojgmiaa.Dg
