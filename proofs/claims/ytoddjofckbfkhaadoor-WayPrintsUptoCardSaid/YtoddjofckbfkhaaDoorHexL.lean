/- Hex digits as lists: plain. -/
import Derived.Test.YtoddjofckbfkhaaDoorRow
namespace Go.Proofs.YtoddjofckbfkhaaDoor.Dg
open Mem

def digitsL : List UInt8 := [48, 49, 50, 51, 52, 53, 54, 55, 56, 57, 97, 98, 99, 100, 101, 102]
def hexDig (n : Nat) : UInt8 := digitsL.getD n 0
def hexL (l : List UInt8) : List UInt8 := l.flatMap fun c => [hexDig (c.toNat / 16), hexDig (c.toNat % 16)]
def hexPart (h : List UInt8) (k : Nat) : Array Value := (bytesU (hexL (h.take k)) ++ List.replicate (64 - 2 * k) (Value.int .u8 0)).toArray

theorem digit_at (n : Nat) (hn : n < 16) (h : n < (⟨#[48, 49, 50, 51, 52, 53, 54, 55, 56, 57, 97, 98, 99, 100, 101, 102]⟩ : ByteArray).size) :
    (⟨#[48, 49, 50, 51, 52, 53, 54, 55, 56, 57, 97, 98, 99, 100, 101, 102]⟩ : ByteArray)[n]'h = hexDig n := by
  show #[48, 49, 50, 51, 52, 53, 54, 55, 56, 57, 97, 98, 99, 100, 101, 102][n] = hexDig n
  simp [hexDig, digitsL, List.getD_eq_getElem?_getD, hn]
theorem length_hexL : ∀ l : List UInt8, (hexL l).length = 2 * l.length
  | [] => rfl
  | c :: l => by have := length_hexL l; simp [hexL] at this ⊢; omega
theorem hexL_append (l m : List UInt8) : hexL (l ++ m) = hexL l ++ hexL m := by simp [hexL]
theorem hexL_snoc (l : List UInt8) (c : UInt8) : hexL (l ++ [c]) = hexL l ++ [hexDig (c.toNat / 16), hexDig (c.toNat % 16)] := by simp [hexL]
theorem take_snoc {α} (l : List α) (k : Nat) (d : α) (h : k < l.length) : l.take (k + 1) = l.take k ++ [l.getD k d] := by
  rw [List.take_succ_eq_append_getElem h]; simp [h]
theorem hexPart_0 (h : List UInt8) : hexPart h 0 = Array.replicate 64 (.int .u8 0) := rfl
theorem hexPart_full (h : List UInt8) (hh : h.length = 32) : hexPart h 32 = (bytesU (hexL h)).toArray := by
  simp [hexPart, List.take_of_length_le (show h.length ≤ 32 by omega)]
theorem size_hexPart (h : List UInt8) (hh : h.length = 32) (k : Nat) (hk : k ≤ 32) : (hexPart h k).size = 64 := by
  simp [hexPart, length_hexL]; omega
theorem hexPart_get (h : List UInt8) (hh : h.length = 32) (k i : Nat) (hk : 2 * k ≤ i) (hi : i < 64) : (hexPart h k)[i]? = some (.int .u8 0) := by
  have h1 : (bytesU (hexL (h.take k))).length = 2 * k := by simp [length_hexL]; omega
  simp only [hexPart, List.getElem?_toArray]
  rw [List.getElem?_append_right (by omega), h1, List.getElem?_replicate, if_pos (by omega)]
theorem hexPart_step (h : List UInt8) (hh : h.length = 32) (k : Nat) (hk : k < 32) (c : UInt8) (hc : h.getD k 0 = c) :
    ((hexPart h k).setIfInBounds (2 * k) (.int .u8 ((hexDig (c.toNat / 16)).toNat : Int))).setIfInBounds (2 * k + 1) (.int .u8 ((hexDig (c.toNat % 16)).toNat : Int)) = hexPart h (k + 1) := by
  have h1 : (bytesU (hexL (h.take k))).length = 2 * k := by simp [length_hexL]; omega
  have h2 : 64 - 2 * k = 64 - 2 * (k + 1) + 1 + 1 := by omega
  simp only [hexPart, List.setIfInBounds_toArray]
  rw [List.set_append_right _ _ (by omega), h1, Nat.sub_self, h2, List.replicate_succ, List.set_cons_zero, List.set_append_right _ _ (by omega), h1,
    show 2 * k + 1 - 2 * k = 1 from by omega, List.replicate_succ, List.set_cons_succ, List.set_cons_zero, take_snoc h k 0 (by omega), hc, hexL_snoc, bytesU_append]
  simp [bytesU]
end Go.Proofs.YtoddjofckbfkhaaDoor.Dg
