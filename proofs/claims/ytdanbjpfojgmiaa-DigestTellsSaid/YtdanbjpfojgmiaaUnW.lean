/- The walks of digest.UnHex and estuaryref01.Digit, UnHex. -/
import Derived.Test.YtdanbjpfojgmiaaArr
import Derived.Test.YtdanbjpfojgmiaaRows
import Derived.Test.YtdanbjpfojgmiaaHexW
import Derived.Test.YtdanbjpfojgmiaaHexP
import Derived.Test.YtdanbjpfojgmiaaShelf
import Derived.WalkSpells
import Derived.Deep.DeepCutAuto
import Derived.Deep.RegionHeld3
import Derived.BigQuiet
import Derived.Deep.QuietTactic
import Derived.WalkLawsBesides
namespace Go.Proofs.Ytdanbjpfojgmiaa.Dg
open Go.RowKit Mem Ops

theorem arr27 : ArrTy Try.prog 27 5 32 := ⟨Try.underlying27, Try.underlying5, by kernel_rfl, by kernel_rfl, by kernel_rfl, by kernel_rfl⟩

set_option maxHeartbeats 400000 in
theorem digit_calls (c : UInt8) (w : World) :
    Calls Try.prog 24 #[.int .u8 (c.toNat : Int)] w fun e w' => e = .returned (.int .i64 (digI c)) ∧ w = w' := by
  rw [digI_eq]
  go_enter Try.func24, Try.ntmps24
  go_wp2
  go_loop [3] (fun i => ∃ k f : Nat, k + f = 16 ∧ i = .int .i64 k ∧ Hid (digFrom c f k = digFrom c 16 0)) (fun i => 16 - (intOf i).toNat)
  case atStart => exact ⟨0, 16, rfl, rfl, rfl⟩
  case round =>
    obtain ⟨k, f, hk, rfl, hr⟩ := hrel
    by_cases hlt : k < 16
    · obtain ⟨f, rfl⟩ : ∃ g, f = g + 1 := ⟨f - 1, by omega⟩
      have hs : k < (⟨#[48, 49, 50, 51, 52, 53, 54, 55, 56, 57, 97, 98, 99, 100, 101, 102]⟩ : ByteArray).size := hlt
      have hd : ((((⟨#[48, 49, 50, 51, 52, 53, 54, 55, 56, 57, 97, 98, 99, 100, 101, 102]⟩ : ByteArray)[k]'hs).toNat : Int) == (c.toNat : Int)) = decide (digitsL.getD k 0 = c) := by
        rw [digit_at k hlt, hexDig, Bool.eq_iff_iff]
        simp only [beq_iff_eq, decide_eq_true_eq, Int.ofNat_inj, UInt8.toNat_inj]
      by_cases he : digitsL.getD k 0 = c
      · rw [decide_eq_true he] at hd
        have hR := hr.out
        rw [digFrom, if_pos he] at hR
        have HR := Lib.hid hR
        clear hR hr he
        go_wp2
        go_ret
        exact ⟨by rw [← HR.out]; rfl, rfl⟩
      · rw [decide_eq_false he] at hd
        have hR := hr.out
        rw [digFrom, if_neg he] at hR
        have HR := Lib.hid hR
        clear hR hr he
        go_wp2
        go_round
        case rel => exact ⟨k + 1, f, by omega, by go_num, HR.out⟩
        case measure => simp [intOf]; omega
    · obtain rfl : f = 0 := by omega
      have hR := hr.out
      rw [digFrom] at hR
      have HR := Lib.hid hR
      clear hR hr
      go_wp2
      go_ret
      exact ⟨by rw [← HR.out]; rfl, rfl⟩

theorem u8_back (c : UInt8) : (c.toNat : Int).toNat.toUInt8 = c := by simp
theorem ix_calls (c : UInt8) (w : World) :
    Calls Try.prog 23 #[.string ⟨#[48, 49, 50, 51, 52, 53, 54, 55, 56, 57, 97, 98, 99, 100, 101, 102]⟩, .int .u8 (c.toNat : Int)] w fun e w' => e = .returned (.int .i64 (digI c)) ∧ w = w' :=
  (Try.strings_IndexByte _ _ w).mono fun e w' h => ⟨by rw [h.1, u8_back]; rfl, h.2.symm⟩
theorem str_at (s : ByteArray) (k : Nat) (h : k < s.size) : s[k] = s.data.toList.getD k 0 := by
  rw [List.getD_eq_getElem?_getD, List.getElem?_eq_getElem (show k < s.data.toList.length from h)]; rfl

theorem or_u8 (x : UInt8) (d : Int) (h0 : 0 ≤ d) (h1 : d < 16) : bits .or .u8 ((x.toNat : Int) * 16 % 256) (d % 256) = (((x <<< 4) ||| d.toNat.toUInt8).toNat : Int) := by
  obtain ⟨n, rfl⟩ := Int.eq_ofNat_of_zero_le h0
  have e1 : (x.toNat : Int) * 16 % 256 = ((x.toNat * 16 % 256 : Nat) : Int) := by omega
  have e2 : (n : Int) % 256 = ((n : Nat) : Int) := by omega
  rw [e1, e2, u8_or_nat _ _ (by omega) (by omega), UInt8.toNat_or, UInt8.toNat_shiftLeft]
  congr 2
  · rw [Nat.shiftLeft_eq]; rfl
  · simp; omega
theorem bytesU_set (h : List UInt8) (i : Nat) (v : UInt8) : (bytesU h).toArray.setIfInBounds i (.int .u8 (v.toNat : Int)) = (bytesU (h.set i v)).toArray := by
  simp [bytesU, List.map_set]

def TupR (r : List UInt8 × Int × Int) (w : World) (e : Ending) (w' : World) : Prop :=
  e = .returned (.tuple #[.agg (bytesU r.1).toArray, .int .i64 r.2.1, .int .i64 r.2.2]) ∧ Below w.heap.size w w'
theorem tupR_ret {fn : Func} {P : Program} {r : List UInt8 × Int × Int} {w w' : World} {a : Act} {g : Nat} {T : TypeId} {t u p : Tmp} {ty e : TypeId} {n : Nat} (h : fn.results = #[.cell p ty, .tmp t, .tmp u])
    (hd : a.defers = []) (hp : a.tmps.getD p undef = .pointer (some ⟨g, 0, none⟩)) (hg : Blk w' g (bytesU r.1).toArray T) (ha : ArrTy P ty e n) (hn : r.1.length = n) (ht : a.tmps.getD t undef = .int .i64 r.2.1) (hu : a.tmps.getD u undef = .int .i64 r.2.2)
    (hb : Below w.heap.size w w') : bodyPost P fn (TupR r w) .ret a w' :=
  bodyPost_ret (by rw [results_ct2 h a.tmps w' g T _ hp hg ha.arr (by rw [ha.size]; simp [hn]), ht, hu]) hd ⟨rfl, hb⟩

set_option maxHeartbeats 1000000 in
theorem unhex_calls (s : ByteArray) (w : World) (hs : s.size ≤ 140737488351232) :
    Calls Try.prog 10 #[.string s] w (TupR (unhexR s.data.toList) w) := by
  have hlen : s.data.toList.length = s.size := rfl
  generalize hR : unhexR s.data.toList = R
  have HR := Lib.hid hR
  clear hR
  go_enter Try.func10, Try.ntmps10
  go_wp2_with (first
    | (with_reducible refine step_alloc arr27.zeroIs ?_))
  have hz : Array.replicate 32 (Value.int .u8 0) = (bytesU z32).toArray := zerosA 32
  rw [hz]
  go_loopw [11] (fun i wr => ∃ (k n : Nat) (h : List UInt8), k + n = 64 ∧ k ≤ s.size ∧ i = .int .i64 k ∧ h.length = 32 ∧ Blk wr w.heap.size (bytesU z32).toArray 27 ∧ Blk wr (w.heap.size + 1) (bytesU h).toArray 27 ∧ Below w.heap.size w wr ∧ Hid (unL s.data.toList n k h = R)) (fun i _ => 64 - (intOf i).toNat)
  case atStart => exact ⟨0, 64, z32, rfl, Nat.zero_le _, rfl, by simp [z32], heap_alloc2_old _ _ _, heap_alloc2_new _ _ _, ((Below.refl _ _).alloc (Nat.le_refl _) _).alloc (by simp) _, HR⟩
  case round =>
    clear HR hz
    obtain ⟨k, n, h, hkn, hks, rfl, hh, hb2, hb5, hbel, hr⟩ := hrel
    by_cases hlt : k < s.size ∧ k < 64
    · obtain ⟨hl1, hl2⟩ := hlt
      obtain ⟨n, rfl⟩ : ∃ m, n = m + 1 := ⟨n - 1, by omega⟩
      have hR := hr.out
      rw [unL, if_pos (by rw [hlen]; exact hl1), ← str_at s k hl1] at hR
      clear hr
      generalize hc : s[k] = c at hR
      have HC := Lib.hid hc
      have t1 : (k : Int) < min (s.size : Int) 64 := by omega
      by_cases hd : digI c < 0
      · rw [if_pos hd] at hR
        have HR := Lib.hid hR
        clear hR
        go_wp2_with (first
          | (go_at_call 23; refine (ix_calls c _).mono ?_; rintro e w' ⟨rfl, rfl⟩)
          | (with_reducible refine step_build0 arr27 ?_)
          | ((with_reducible refine step_store_row (t := 27) (b := w.heap.size) (old := (bytesU z32).toArray) (cs := (bytesU (zerosL 32)).toArray) (T := 27) ?_ ?_ hb2 ?_ ?_ (one_bytesU _) ?_); (· rfl); (· rfl); (· simpa [zerosL] using arr27.size); (· simp [z32, zerosL])))
        rw [← HR.out]
        (try simp only [Exit.inBlock, Exit.then])
        exact tupR_ret rfl rfl rfl (hb2.setRow _) arr27 (by simp [z32]) rfl rfl (below_setRow hbel (Nat.le_refl _) _)
      · rw [if_neg hd] at hR
        have HR := Lib.hid hR
        clear hR
        have c5 : wr.cell? ⟨w.heap.size + 1, k / 2, none⟩ = some (.int .u8 ((h.getD (k / 2) 0).toNat : Int)) := by rw [hb5.cell, List.getElem?_toArray]; exact bytesU_get _ _ (by omega)
        have f5 : wr.frozen? ⟨w.heap.size + 1, k / 2, none⟩ = false := hb5.frozen _
        go_wp2_with (first
          | (go_at_call 23; refine (ix_calls c _).mono ?_; rintro e w' ⟨rfl, rfl⟩))
        go_roundw
        case rel => exact ⟨k + 1, n, _, by omega, by omega, by go_num, (length_stepH _ _ _).trans hh, hb2.far (by simp) _, by
          rw [show (h[k / 2]?.getD 0) = h.getD (k / 2) 0 from rfl, or_u8 _ _ (by omega) (digI_lt c).1]
          have := hb5.set (k / 2) (.int .u8 ((((h.getD (k / 2) 0) <<< 4) ||| (digI c).toNat.toUInt8).toNat : Int))
          rw [bytesU_set] at this
          exact this, hbel.setCell (by simp) _, HR.out⟩
        case measure => simp [intOf]; omega
    · have t1 : ¬ ((k : Int) < min (s.size : Int) 64) := by omega
      have hR := hr.out
      clear hr
      by_cases h64 : s.size = 64
      · obtain rfl : n = 0 := by omega
        rw [unL, if_neg (by rw [hlen]; omega)] at hR
        have HR := Lib.hid hR
        have H64 := Lib.hid h64
        have t2 : ((s.size : Int) != 64) = false := by rw [h64]; rfl
        clear hR h64
        go_wp2_with (first
          | ((with_reducible refine step_load_arr (b := w.heap.size + 1) (cs := (bytesU h).toArray) arr27 hb5 ?_ ?_ ?_); (· rfl); (· simp [hh]))
          | ((with_reducible refine step_store_row (t := 27) (b := w.heap.size) (old := (bytesU z32).toArray) (cs := (bytesU h).toArray) (T := 27) ?_ ?_ hb2 ?_ ?_ (one_bytesU _) ?_); (· rfl); (· rfl); (· simpa [hh] using arr27.size); (· simp [z32, hh])))
        rw [← HR.out]
        (try simp only [Exit.inBlock, Exit.then])
        exact tupR_ret (r := (h, 0, 0)) rfl rfl rfl (hb2.setRow _) arr27 (by exact hh) (by rfl) (by rfl) (below_setRow hbel (Nat.le_refl _) _)
      · have t2 : ((s.size : Int) != 64) = true := by rw [bne_iff_ne]; omega
        have hRR : (z32, 10, min (s.size : Int) 64) = R := by
          rw [← hR]
          rcases n with _ | n
          · rw [unL, if_pos (by rw [hlen]; omega)]; congr 2; omega
          · rw [unL, if_neg (by rw [hlen]; omega)]; congr 2; omega
        have HR := Lib.hid hRR
        clear hR hRR h64
        go_wp2_with (first
          | (with_reducible refine step_build0 arr27 ?_)
          | ((with_reducible refine step_store_row (t := 27) (b := w.heap.size) (old := (bytesU z32).toArray) (cs := (bytesU (zerosL 32)).toArray) (T := 27) ?_ ?_ hb2 ?_ ?_ (one_bytesU _) ?_); (· rfl); (· rfl); (· simpa [zerosL] using arr27.size); (· simp [z32, zerosL])))
        rw [← HR.out]
        (try simp only [Exit.inBlock, Exit.then])
        exact tupR_ret rfl rfl rfl (hb2.setRow _) arr27 (by simp [z32]) rfl rfl (below_setRow hbel (Nat.le_refl _) _)
end Go.Proofs.Ytdanbjpfojgmiaa.Dg
