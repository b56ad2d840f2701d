/- The walk of estuaryref01.UnHex. -/
import Derived.Test.YtdanbjpfojgmiaaUnW
import Derived.Deep.RegionWith
namespace Go.Proofs.Ytdanbjpfojgmiaa.Dg
open Go.RowKit Mem Ops

theorem or_u8w (x : UInt8) (d : Int) (h0 : 0 ≤ d) (h1 : d < 16) : bits .or .u8 (IntKind.u8.wrap ((x.toNat : Int) * 16)) (IntKind.u8.wrap d) = (((x <<< 4) ||| d.toNat.toUInt8).toNat : Int) := by
  rw [IntKind.wrap_u8', IntKind.wrap_u8', or_u8 x d h0 h1]

set_option maxHeartbeats 1000000 in
theorem unhexRef_calls (s : ByteArray) (w : World) (hs : s.size ≤ 140737488351232) :
    Calls Try.prog 12 #[.string s] w (TupR (unhexR s.data.toList) w) := by
  have hlen : s.data.toList.length = s.size := rfl
  generalize hR : unhexR s.data.toList = R
  have HR := Lib.hid hR
  clear hR
  go_enter Try.func12, Try.ntmps12
  go_wp2_with (first
    | (with_reducible refine step_alloc arr27.zeroIs ?_))
  have hz : Array.replicate 32 (Value.int .u8 0) = (bytesU z32).toArray := zerosA 32
  rw [hz]
  go_loopw [6] (fun i wr => ∃ (k n : Nat) (h : List UInt8), k + n = 64 ∧ i = .int .i64 k ∧ h.length = 32 ∧ Blk wr w.heap.size (bytesU z32).toArray 27 ∧ Blk wr (w.heap.size + 1) (bytesU h).toArray 27 ∧ Below w.heap.size w wr ∧ Hid (unL s.data.toList n k h = R)) (fun i _ => 64 - (intOf i).toNat)
  case atStart => exact ⟨0, 64, z32, rfl, rfl, by simp [z32], heap_alloc2_old _ _ _, heap_alloc2_new _ _ _, ((Below.refl _ _).alloc (Nat.le_refl _) _).alloc (by simp) _, HR⟩
  case round =>
    clear HR hz
    obtain ⟨k, n, h, hkn, rfl, hh, hb2, hb5, hbel, hr⟩ := hrel
    by_cases hl2 : k < 64
    · obtain ⟨n, rfl⟩ : ∃ m, n = m + 1 := ⟨n - 1, by omega⟩
      by_cases hl1 : k < s.size
      · have hR := hr.out
        rw [unL, if_pos (by rw [hlen]; exact hl1), ← str_at s k hl1] at hR
        clear hr
        generalize hc : s[k] = c at hR
        have HC := Lib.hid hc
        have t1 : decide ((s.size : Int) ≤ (k : Int)) = false := by simp; omega
        have t3 : (k : Int) < (s.size : Int) := by omega
        by_cases hd : digI c < 0
        · rw [if_pos hd] at hR
          have HR := Lib.hid hR
          clear hR
          go_wp2_with (first
            | (go_at_call 24; refine (digit_calls c _).mono ?_; rintro e w' ⟨rfl, rfl⟩)
            | (with_reducible refine step_build0 arr27 ?_)
            | ((with_reducible refine step_store_row (t := 27) (b := w.heap.size) (old := (bytesU z32).toArray) (cs := (bytesU (zerosL 32)).toArray) (T := 27) ?_ ?_ hb2 ?_ ?_ (one_bytesU _) ?_); (· rfl); (· rfl); (· simpa [zerosL] using arr27.size); (· simp [z32, zerosL])))
          rw [← HR.out]
          (try simp only [Exit.inBlock, Exit.then])
          exact tupR_ret rfl rfl rfl (hb2.setRow _) arr27 (by simp [z32]) rfl rfl (below_setRow hbel (Nat.le_refl _) _)
        · rw [if_neg hd] at hR
          have HR := Lib.hid hR
          clear hR
          have c5 : wr.cell? ⟨w.heap.size + 1, k / 2, none⟩ = some (.int .u8 ((h.getD (k / 2) 0).toNat : Int)) := by rw [hb5.cell, List.getElem?_toArray]; exact bytesU_get _ _ (by omega)
          have f5 : wr.frozen? ⟨w.heap.size + 1, k / 2, none⟩ = false := hb5.frozen _
          have q1 : IntKind.i64.wrap ((k : Int) / 2) = (k : Int) / 2 := by rw [IntKind.wrap_i64]; omega
          have q2 : (0 : Int) ≤ (k : Int) / 2 := by omega
          have q3 : (k : Int) / 2 < 32 := by omega
          have q4 : ((k : Int) / 2).toNat = k / 2 := by omega
          go_wp2_with (first
            | (go_at_call 24; refine (digit_calls c _).mono ?_; rintro e w' ⟨rfl, rfl⟩))
          go_region_with (go_at_call 24; refine (digit_calls c _).mono ?_; rintro e w' ⟨rfl, rfl⟩)
          all_goals
            go_wp2
            go_roundw
            case rel => exact ⟨k + 1, n, _, by omega, by go_num, (length_stepH _ _ _).trans hh, (hb2.far (by simp) _).drew, by
              rw [show (h[k / 2]?.getD 0) = h.getD (k / 2) 0 from rfl]
              have := hb5.set (k / 2) (.int .u8 ((((h.getD (k / 2) 0) <<< 4) ||| (digI c).toNat.toUInt8).toNat : Int))
              rw [bytesU_set] at this
              first | rw [or_u8w _ _ (by omega) (digI_lt c).1] | rw [or_u8 _ _ (by omega) (digI_lt c).1]
              exact this.drew, (hbel.setCell (by simp) _).drew, HR.out⟩
            case measure => simp [intOf]; omega
      · have hR := hr.out
        rw [unL, if_neg (by rw [hlen]; exact hl1)] at hR
        clear hr
        have t1 : decide ((s.size : Int) ≤ (k : Int)) = true := by simp; omega
        have HR := Lib.hid hR
        clear hR
        go_wp2_with (first
          | (with_reducible refine step_build0 arr27 ?_)
          | ((with_reducible refine step_store_row (t := 27) (b := w.heap.size) (old := (bytesU z32).toArray) (cs := (bytesU (zerosL 32)).toArray) (T := 27) ?_ ?_ hb2 ?_ ?_ (one_bytesU _) ?_); (· rfl); (· rfl); (· simpa [zerosL] using arr27.size); (· simp [z32, zerosL])))
        rw [← HR.out]
        (try simp only [Exit.inBlock, Exit.then])
        exact tupR_ret rfl rfl rfl (hb2.setRow _) arr27 (by simp [z32]) rfl rfl (below_setRow hbel (Nat.le_refl _) _)
    · obtain rfl : n = 0 := by omega
      obtain rfl : k = 64 := by omega
      have hR := hr.out
      clear hr
      by_cases h64 : s.size > 64
      · rw [unL, if_pos (by rw [hlen]; omega)] at hR
        have HR := Lib.hid hR
        have t2 : (64 : Int) < (s.size : Int) := by omega
        clear hR h64
        go_wp2_with (first
          | (with_reducible refine step_build0 arr27 ?_)
          | ((with_reducible refine step_store_row (t := 27) (b := w.heap.size) (old := (bytesU z32).toArray) (cs := (bytesU (zerosL 32)).toArray) (T := 27) ?_ ?_ hb2 ?_ ?_ (one_bytesU _) ?_); (· rfl); (· rfl); (· simpa [zerosL] using arr27.size); (· simp [z32, zerosL])))
        rw [← HR.out]
        (try simp only [Exit.inBlock, Exit.then])
        exact tupR_ret rfl rfl rfl (hb2.setRow _) arr27 (by simp [z32]) rfl rfl (below_setRow hbel (Nat.le_refl _) _)
      · rw [unL, if_neg (by rw [hlen]; omega)] at hR
        have HR := Lib.hid hR
        have t2 : ¬ (64 : Int) < (s.size : Int) := by omega
        clear hR h64
        go_wp2_with (first
          | ((with_reducible refine step_load_arr (b := w.heap.size + 1) (cs := (bytesU h).toArray) arr27 hb5 ?_ ?_ ?_); (· rfl); (· simp [hh]))
          | ((with_reducible refine step_store_row (t := 27) (b := w.heap.size) (old := (bytesU z32).toArray) (cs := (bytesU h).toArray) (T := 27) ?_ ?_ hb2 ?_ ?_ (one_bytesU _) ?_); (· rfl); (· rfl); (· simpa [hh] using arr27.size); (· simp [z32, hh])))
        rw [← HR.out]
        (try simp only [Exit.inBlock, Exit.then])
        exact tupR_ret (r := (h, 0, 0)) rfl rfl rfl (hb2.setRow _) arr27 hh rfl rfl (below_setRow hbel (Nat.le_refl _) _)
end Go.Proofs.Ytdanbjpfojgmiaa.Dg
