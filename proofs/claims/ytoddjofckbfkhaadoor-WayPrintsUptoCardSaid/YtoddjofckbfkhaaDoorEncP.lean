/- The plain law: a rune that is read is written as the bytes that it was read from. -/
import Derived.Test.YtoddjofckbfkhaaDoorUtfP
import Derived.Test.YtoddjofckbfkhaaDoorRow
import Derived.Lib.RuneBytes
namespace Go.Proofs.YtoddjofckbfkhaaDoor.Ut
open Go.Lib Mem
theorem enc_ge {r : Int} (h : 128 ≤ r) : ∀ x ∈ encodeRuneZ r, 128 ≤ x := by
  intro x hx
  unfold encodeRuneZ at hx
  repeat' split at hx
  all_goals simp at hx
  all_goals omega
theorem dec_enc (n b0 b1 b2 b3 : Nat) (hn : 1 ≤ n) (h0 : b0 < 256) (_h1 : b1 < 256) (_h2 : b2 < 256) (_h3 : b3 < 256) (r k : Nat) (hd : decodeN n b0 b1 b2 b3 = (r, k)) (hv : ¬ (r = 65533 ∧ k = 1)) :
    1 ≤ k ∧ k ≤ n ∧ k ≤ 4 ∧ encodeRuneZ (r : Int) = ([(b0 : Int), (b1 : Int), (b2 : Int), (b3 : Int)]).take k ∧ (128 ≤ b0 → 128 ≤ r) ∧ (b0 < 128 → r = b0 ∧ k = 1) ∧ r ≤ 1114111 := by
  unfold decodeN at hd
  split at hd
  · simp only [Prod.mk.injEq] at hd
    obtain ⟨rfl, rfl⟩ := hd
    refine ⟨Nat.le_refl _, hn, by omega, ?_, by omega, fun _ => ⟨rfl, rfl⟩, by omega⟩
    rw [encodeRuneZ_one (by omega) (by omega)]
    rfl
  · split at hd
    · split at hd
      · simp only [Prod.mk.injEq] at hd
        obtain ⟨rfl, rfl⟩ := hd
        refine ⟨by omega, by omega, by omega, ?_, by omega, by omega, by omega⟩
        rw [encodeRuneZ_two (by omega) (by omega)]
        simp only [List.take_succ_cons, List.take_zero, List.cons.injEq, and_true]
        omega
      · simp only [Prod.mk.injEq] at hd
        exact absurd ⟨hd.1.symm, hd.2.symm⟩ hv
    · split at hd
      · split at hd
        · simp only [Prod.mk.injEq] at hd
          obtain ⟨rfl, rfl⟩ := hd
          refine ⟨by omega, by omega, by omega, ?_, by omega, by omega, by omega⟩
          rw [encodeRuneZ_three (by omega)]
          simp only [List.take_succ_cons, List.take_zero, List.cons.injEq, and_true]
          omega
        · simp only [Prod.mk.injEq] at hd
          exact absurd ⟨hd.1.symm, hd.2.symm⟩ hv
      · split at hd
        · split at hd
          · simp only [Prod.mk.injEq] at hd
            obtain ⟨rfl, rfl⟩ := hd
            refine ⟨by omega, by omega, by omega, ?_, by omega, by omega, by omega⟩
            rw [encodeRuneZ_four (by omega) (by omega)]
            simp only [List.take_succ_cons, List.take_zero, List.cons.injEq, and_true]
            omega
          · simp only [Prod.mk.injEq] at hd
            exact absurd ⟨hd.1.symm, hd.2.symm⟩ hv
        · simp only [Prod.mk.injEq] at hd
          exact absurd ⟨hd.1.symm, hd.2.symm⟩ hv
theorem take_four (l : List UInt8) (k : Nat) (hk : k ≤ l.length) (h4 : k ≤ 4) : l.take k = ([l.getD 0 0, l.getD 1 0, l.getD 2 0, l.getD 3 0]).take k := by
  apply List.ext_getElem?
  intro i
  rw [List.getElem?_take, List.getElem?_take]
  split
  · rename_i hi
    have h1 : i = 0 ∨ i = 1 ∨ i = 2 ∨ i = 3 := by omega
    have hil : i < l.length := by omega
    rw [List.getElem?_eq_getElem hil]
    have e : l.getD i 0 = l[i] := by rw [List.getD_eq_getElem?_getD, List.getElem?_eq_getElem hil]; rfl
    rcases h1 with rfl | rfl | rfl | rfl <;> (rw [← e]; rfl)
  · rfl
/-- What is known of the rune at the front of a valid text. -/
structure RuneAt (l : List UInt8) (r k : Nat) : Prop where
  pos : 1 ≤ k
  le : k ≤ l.length
  cells : runeCells (r : Int) = bytesU (l.take k)
  high : 128 ≤ (l.getD 0 0).toNat → 128 ≤ r ∧ ∀ c ∈ l.take k, 128 ≤ c.toNat
  low : (l.getD 0 0).toNat < 128 → r = (l.getD 0 0).toNat ∧ k = 1
  rest : validD (l.drop k) = true
  top : r ≤ 1114111
theorem rune_at (l : List UInt8) (hne : l ≠ []) (hv : validD l = true) (r k : Nat) (hd : decodeL l = (r, k)) : RuneAt l r k := by
  have hs := validD_step l hne
  rw [hd, hv] at hs
  have hb : ¬ (r = 65533 ∧ k = 1) := by
    intro h
    simp only at hs
    rw [if_pos h] at hs
    cases hs
  simp only at hs
  rw [if_neg hb] at hs
  rw [decodeL_N] at hd
  have hl : 1 ≤ l.length := List.length_pos_iff.2 hne
  obtain ⟨h1, h2, h3, h4, h5, h6, h7⟩ := dec_enc l.length _ _ _ _ hl (l.getD 0 0).toNat_lt (l.getD 1 0).toNat_lt (l.getD 2 0).toNat_lt (l.getD 3 0).toNat_lt r k hd hb
  have h8 : encodeRuneZ (r : Int) = (l.take k).map (fun c => (c.toNat : Int)) := by
    rw [take_four l k h2 h3, h4, List.map_take]
    rfl
  refine ⟨h1, h2, ?_, fun h => ⟨h5 h, fun c hc => ?_⟩, h6, hs.symm, h7⟩
  · unfold runeCells
    rw [h8, List.map_map]
    rfl
  · have := enc_ge (r := (r : Int)) (by have := h5 h; omega) (c.toNat : Int) (by rw [h8]; exact List.mem_map.2 ⟨c, hc, rfl⟩)
    omega
end Go.Proofs.YtoddjofckbfkhaaDoor.Ut
