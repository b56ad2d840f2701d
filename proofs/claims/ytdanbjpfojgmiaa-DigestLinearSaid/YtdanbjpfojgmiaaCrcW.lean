/- The walk of digest.Crc. -/
import Derived.Test.YtdanbjpfojgmiaaRows
import Derived.Test.YtdanbjpfojgmiaaCrc
import Derived.WalkKit
import Derived.WalkSpells
import Derived.WalkLawsBesides
import Derived.Lib.Hide
import Derived.Test.YtdanbjpfojgmiaaMem
namespace Go.Proofs.Ytdanbjpfojgmiaa.Dg
open Go.RowKit Mem

theorem xor_u32_bv (x y : BitVec 32) : bits .xor .u32 (x.toNat : Int) (y.toNat : Int) = ((x ^^^ y).toNat : Int) := by
  rw [u32_xor_nat _ _ x.isLt y.isLt, BitVec.toNat_xor]
theorem xor_u32_bv8 (x : BitVec 32) (c : BitVec 8) : bits .xor .u32 (x.toNat : Int) (c.toNat : Int) = ((x ^^^ c.setWidth 32).toNat : Int) := by
  rw [← xor_u32_bv]; congr 2
theorem and1_u32_bv (x : BitVec 32) : bits .and .u32 (x.toNat : Int) 1 = ((x &&& 1#32).toNat : Int) := by
  rw [show (1 : Int) = ((1 : Nat) : Int) from rfl, u32_and_nat _ _ x.isLt (by decide), BitVec.toNat_and]; rfl

theorem half_u32_bv (x : BitVec 32) : (x.toNat : Int) / (2 : Int) = ((x >>> 1).toNat : Int) := by
  rw [BitVec.toNat_ushiftRight, Nat.shiftRight_eq_div_pow]; norm_cast
theorem xor_u32_poly (x : BitVec 32) : bits .xor .u32 (x.toNat : Int) 3988292384 = ((x ^^^ 3988292384#32).toNat : Int) := by
  rw [← xor_u32_bv]; rfl

theorem xor_half (x : BitVec 32) : bits .xor .u32 ((x.toNat : Int) / (2 : Int)) 3988292384 = ((x >>> 1 ^^^ 3988292384#32).toNat : Int) := by
  rw [half_u32_bv, xor_u32_poly]
theorem not_u32 (x : BitVec 32) : bits .xor .u32 IntKind.u32.max (x.toNat : Int) = ((~~~ x).toNat : Int) := by
  rw [show IntKind.u32.max = (((~~~ 0#32 : BitVec 32).toNat : Nat) : Int) from rfl, xor_u32_bv]
  congr 2

section
attribute [local go_sem] xor_u32_bv xor_u32_bv8
set_option maxHeartbeats 400000 in
theorem crc_any (b off cap : Nat) (bs : List (BitVec 8)) (w : World) (hl : bs.length ≤ 140737488351232)
    (hc : ∀ i, i < bs.length → w.cell? ⟨b, off + i, none⟩ = some (.int .u8 ((bs.getD i 0).toNat : Int))) :
    Calls Try.prog 8 #[.slice (some ⟨b, off, none⟩) bs.length cap] w fun e w' => e = .returned (.int .u32 ((crc bs).toNat : Int)) ∧ w' = w := by
  go_enter Try.func8, Try.ntmps8
  go_wp2
  go_loop [3, 8] (fun r i => ∃ k : Nat, k ≤ bs.length ∧ i = .int .i64 k ∧ r = .int .u32 ((crcTo (bs.take k)).toNat : Int)) (fun _ i => bs.length - (intOf i).toNat)
  case atStart => exact ⟨0, Nat.zero_le _, rfl, rfl⟩
  case round =>
    obtain ⟨k, hk, rfl, rfl⟩ := hrel
    by_cases hlt : k < bs.length
    · have g := hc k hlt
      go_wp2
      go_loop [3, 16] (fun r j => ∃ m : Nat, m ≤ 8 ∧ j = .int .i64 m ∧ r = .int .u32 ((crcBits (crcTo (bs.take k) ^^^ (bs.getD k 0).setWidth 32) m).toNat : Int)) (fun _ i => 8 - (intOf i).toNat)
      case atStart => exact ⟨0, Nat.zero_le _, rfl, by simp [crcBits, hlt]⟩
      case round =>
        obtain ⟨m, hm, rfl, rfl⟩ := hrel
        by_cases hm8 : m < 8
        · have hstep : crcBits (crcTo (bs.take k) ^^^ (bs.getD k 0).setWidth 32) (m + 1) = crcBit (crcBits (crcTo (bs.take k) ^^^ (bs.getD k 0).setWidth 32) m) := rfl
          have HS := Lib.hid hstep
          clear hstep
          generalize crcBits (crcTo (bs.take k) ^^^ (bs.getD k 0).setWidth 32) m = x at *
          by_cases hx : x &&& 1#32 = 1#32
          · have hxb : (bits .and .u32 (x.toNat : Int) 1 == 1) = true := by rw [and1_u32_bv, hx]; rfl
            have H1 := Lib.hid hx
            clear hx
            go_wp2
            go_round
            case rel => exact ⟨m + 1, by omega, by go_num, by rw [HS.out, crcBit, if_pos H1.out, ← xor_half]⟩
            case measure => simp [intOf]; omega
          · have hxb : (bits .and .u32 (x.toNat : Int) 1 == 1) = false := by rw [and1_u32_bv, (bit_cases x).resolve_right hx]; rfl
            have H1 := Lib.hid hx
            clear hx
            go_wp2
            go_round
            case rel => exact ⟨m + 1, by omega, by go_num, by rw [HS.out, crcBit, if_neg H1.out, ← half_u32_bv]⟩
            case measure => simp [intOf]; omega
        · obtain rfl : m = 8 := by omega
          have hstep : crcTo (bs.take (k + 1)) = crcBits (crcTo (bs.take k) ^^^ (bs.getD k 0).setWidth 32) 8 := by
            rw [List.take_succ_eq_append_getElem hlt, crcTo_snoc, crcByte]; simp [hlt]
          have HS := Lib.hid hstep
          clear hstep
          generalize crcBits (crcTo (bs.take k) ^^^ (bs.getD k 0).setWidth 32) 8 = x at *
          go_wp2
          go_round
          case rel => exact ⟨k + 1, by omega, by go_num, by rw [HS.out]⟩
          case measure => simp [intOf]; omega
    · obtain rfl : k = bs.length := by omega
      go_wp2
      go_ret
      exact ⟨by rw [crc, ← List.take_length (l := bs), ← not_u32]; simp, rfl⟩
set_option maxHeartbeats 400000 in
theorem crc_nil (a : Option Addr) (cap : Nat) (w : World) :
    Calls Try.prog 8 #[.slice a 0 cap] w fun e w' => e = .returned (.int .u32 ((crc []).toNat : Int)) ∧ w' = w := by
  go_enter Try.func8, Try.ntmps8
  go_wp2
  go_loop [3, 8] (fun r i => i = .int .i64 0 ∧ r = .int .u32 ((crcTo []).toNat : Int)) (fun _ i => 0)
  case atStart => exact ⟨rfl, rfl⟩
  case round =>
    obtain ⟨rfl, rfl⟩ := hrel
    go_wp2
    go_ret
    exact ⟨by rw [crc, ← not_u32]; rfl, rfl⟩

/-- The sum of a slice's bytes; nothing turns. -/
theorem crc_calls (a : Option Addr) (bs : List (BitVec 8)) (n cap : Nat) (w : World) (hn : n = bs.length) (hl : bs.length ≤ 140737488351232) (h : BytesAt w a bs) :
    Calls Try.prog 8 #[.slice a n cap] w fun e w' => e = .returned (.int .u32 ((crc bs).toNat : Int)) ∧ w' = w := by
  subst hn
  rcases h with rfl | ⟨b, off, rfl, _, hc⟩
  · exact crc_nil a cap w
  · exact crc_any b off cap bs w hl hc
end
end Go.Proofs.Ytdanbjpfojgmiaa.Dg
