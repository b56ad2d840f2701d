/- The plain law: the document's UTF-8 is the library's. -/
import Derived.Test.YtodjcgkbcbaadaaDoorUtf
namespace Go.Proofs.YtodjcgkbcbaadaaDoor.Ut
open Go.Lib
theorem tail2 (l : List UInt8) (lo hi : Nat) : tailR l 2 lo hi = true ↔ ¬ (l.length < 2 ∨ (l.getD 1 0).toNat < lo ∨ hi < (l.getD 1 0).toNat) := by
  unfold tailR
  rw [goR_end]
  simp only [Bool.and_eq_true, decide_eq_true_eq, and_true]
  omega
theorem goOn_iff (c : UInt8) : goOn c = true ↔ 128 ≤ c.toNat ∧ c.toNat ≤ 191 := by
  unfold goOn
  simp only [Bool.and_eq_true, decide_eq_true_eq]
  omega
theorem tail3 (l : List UInt8) (lo hi : Nat) : tailR l 3 lo hi = true ↔ ¬ (l.length < 3 ∨ (l.getD 1 0).toNat < lo ∨ hi < (l.getD 1 0).toNat ∨ (l.getD 2 0).toNat < 128 ∨ 191 < (l.getD 2 0).toNat) := by
  unfold tailR
  by_cases h : 3 ≤ l.length
  · rw [goR_step l 2 3 (by omega) h, goR_end]
    simp only [Bool.and_eq_true, decide_eq_true_eq, goOn_iff, and_true]
    omega
  · simp only [Bool.and_eq_true, decide_eq_true_eq]
    omega
theorem tail4 (l : List UInt8) (lo hi : Nat) : tailR l 4 lo hi = true ↔ ¬ (l.length < 4 ∨ (l.getD 1 0).toNat < lo ∨ hi < (l.getD 1 0).toNat ∨ (l.getD 2 0).toNat < 128 ∨ 191 < (l.getD 2 0).toNat ∨ (l.getD 3 0).toNat < 128 ∨ 191 < (l.getD 3 0).toNat) := by
  unfold tailR
  by_cases h : 4 ≤ l.length
  · rw [goR_step l 2 4 (by omega) h, goR_step l 3 4 (by omega) h, goR_end]
    simp only [Bool.and_eq_true, decide_eq_true_eq, goOn_iff, and_true]
    omega
  · simp only [Bool.and_eq_true, decide_eq_true_eq]
    omega
theorem check2 (l : List UInt8) (b2 b3 lo hi : Nat) : (checkN l.length (l.getD 1 0).toNat b2 b3 2 lo hi).getD 0 = if tailR l 2 lo hi = true then 2 else 0 := by
  unfold checkN
  rw [if_pos rfl]
  by_cases h : tailR l 2 lo hi = true
  · rw [if_pos h, if_neg ((tail2 l lo hi).1 h)]; rfl
  · rw [if_neg h, if_pos (Classical.not_not.1 (fun k => h ((tail2 l lo hi).2 k)))]; rfl
theorem check3 (l : List UInt8) (b3 lo hi : Nat) : (checkN l.length (l.getD 1 0).toNat (l.getD 2 0).toNat b3 3 lo hi).getD 0 = if tailR l 3 lo hi = true then 3 else 0 := by
  unfold checkN
  rw [if_neg (by decide), if_pos rfl]
  by_cases h : tailR l 3 lo hi = true
  · rw [if_pos h, if_neg ((tail3 l lo hi).1 h)]; rfl
  · rw [if_neg h, if_pos (Classical.not_not.1 (fun k => h ((tail3 l lo hi).2 k)))]; rfl
theorem check4 (l : List UInt8) (lo hi : Nat) : (checkN l.length (l.getD 1 0).toNat (l.getD 2 0).toNat (l.getD 3 0).toNat 4 lo hi).getD 0 = if tailR l 4 lo hi = true then 4 else 0 := by
  unfold checkN
  rw [if_neg (by decide), if_neg (by decide), if_pos rfl]
  by_cases h : tailR l 4 lo hi = true
  · rw [if_pos h, if_neg ((tail4 l lo hi).1 h)]; rfl
  · rw [if_neg h, if_pos (Classical.not_not.1 (fun k => h ((tail4 l lo hi).2 k)))]; rfl
theorem wide_check (l : List UInt8) (hne : l ≠ []) (h0 : 128 ≤ (l.getD 0 0).toNat) :
    wideR l = (checkN l.length (l.getD 1 0).toNat (l.getD 2 0).toNat (l.getD 3 0).toNat (firstT (l.getD 0 0).toNat % 8) (accLo (firstT (l.getD 0 0).toNat / 16)) (accHi (firstT (l.getD 0 0).toNat / 16))).getD 0 := by
  unfold wideR
  have hlt := (l.getD 0 0).toNat_lt
  rw [if_neg hne]
  obtain ⟨b, hb⟩ : ∃ b, (l.getD 0 0).toNat = b := ⟨_, rfl⟩
  rw [hb] at h0 hlt ⊢
  rw [if_neg (show ¬ ((b : Nat) : Int) < 128 by omega)]
  by_cases c0 : b < 194
  · rw [if_pos (show ((b : Nat) : Int) < 194 by omega)]
    rw [show firstT b = firstT b from rfl]
    simp [firstT, checkN, show ¬ b < 128 by omega, c0]
  rw [if_neg (show ¬ ((b : Nat) : Int) < 194 by omega)]
  by_cases c1 : b < 224
  · rw [if_pos (show ((b : Nat) : Int) < 224 by omega)]
    have e1 : firstT b % 8 = 2 := by simp [firstT, show ¬ b < 128 by omega, c0, c1]
    have e2 : accLo (firstT b / 16) = 128 := by simp [firstT, accLo, show ¬ b < 128 by omega, c0, c1]
    have e3 : accHi (firstT b / 16) = 191 := by simp [firstT, accHi, show ¬ b < 128 by omega, c0, c1]
    rw [e1, e2, e3, check2]
    rfl
  rw [if_neg (show ¬ ((b : Nat) : Int) < 224 by omega)]
  by_cases c2 : b = 224
  · rw [if_pos (show ((b : Nat) : Int) = 224 by omega)]
    subst c2
    have e1 : firstT 224 % 8 = 3 := by decide
    have e2 : accLo (firstT 224 / 16) = 160 := by decide
    have e3 : accHi (firstT 224 / 16) = 191 := by decide
    rw [e1, e2, e3, check3]
    rfl
  rw [if_neg (show ¬ ((b : Nat) : Int) = 224 by omega)]
  by_cases c3 : b < 237
  · rw [if_pos (show ((b : Nat) : Int) < 237 by omega)]
    have e1 : firstT b % 8 = 3 := by simp [firstT, show ¬ b < 128 by omega, c0, c1, c2, c3]
    have e2 : accLo (firstT b / 16) = 128 := by simp [firstT, accLo, show ¬ b < 128 by omega, c0, c1, c2, c3]
    have e3 : accHi (firstT b / 16) = 191 := by simp [firstT, accHi, show ¬ b < 128 by omega, c0, c1, c2, c3]
    rw [e1, e2, e3, check3]
    rfl
  rw [if_neg (show ¬ ((b : Nat) : Int) < 237 by omega)]
  by_cases c4 : b = 237
  · rw [if_pos (show ((b : Nat) : Int) = 237 by omega)]
    subst c4
    have e1 : firstT 237 % 8 = 3 := by decide
    have e2 : accLo (firstT 237 / 16) = 128 := by decide
    have e3 : accHi (firstT 237 / 16) = 159 := by decide
    rw [e1, e2, e3, check3]
    rfl
  rw [if_neg (show ¬ ((b : Nat) : Int) = 237 by omega)]
  by_cases c5 : b < 240
  · rw [if_pos (show ((b : Nat) : Int) < 240 by omega)]
    have e1 : firstT b % 8 = 3 := by simp [firstT, show ¬ b < 128 by omega, c0, c1, c2, c3, c4, c5]
    have e2 : accLo (firstT b / 16) = 128 := by simp [firstT, accLo, show ¬ b < 128 by omega, c0, c1, c2, c3, c4, c5]
    have e3 : accHi (firstT b / 16) = 191 := by simp [firstT, accHi, show ¬ b < 128 by omega, c0, c1, c2, c3, c4, c5]
    rw [e1, e2, e3, check3]
    rfl
  rw [if_neg (show ¬ ((b : Nat) : Int) < 240 by omega)]
  by_cases c6 : b = 240
  · rw [if_pos (show ((b : Nat) : Int) = 240 by omega)]
    subst c6
    have e1 : firstT 240 % 8 = 4 := by decide
    have e2 : accLo (firstT 240 / 16) = 144 := by decide
    have e3 : accHi (firstT 240 / 16) = 191 := by decide
    rw [e1, e2, e3, check4]
    rfl
  rw [if_neg (show ¬ ((b : Nat) : Int) = 240 by omega)]
  by_cases c7 : b < 244
  · rw [if_pos (show ((b : Nat) : Int) < 244 by omega)]
    have e1 : firstT b % 8 = 4 := by simp [firstT, show ¬ b < 128 by omega, c0, c1, c2, c3, c4, c5, c6, c7]
    have e2 : accLo (firstT b / 16) = 128 := by simp [firstT, accLo, show ¬ b < 128 by omega, c0, c1, c2, c3, c4, c5, c6, c7]
    have e3 : accHi (firstT b / 16) = 191 := by simp [firstT, accHi, show ¬ b < 128 by omega, c0, c1, c2, c3, c4, c5, c6, c7]
    rw [e1, e2, e3, check4]
    rfl
  rw [if_neg (show ¬ ((b : Nat) : Int) < 244 by omega)]
  by_cases c8 : b = 244
  · rw [if_pos (show ((b : Nat) : Int) = 244 by omega)]
    subst c8
    have e1 : firstT 244 % 8 = 4 := by decide
    have e2 : accLo (firstT 244 / 16) = 128 := by decide
    have e3 : accHi (firstT 244 / 16) = 143 := by decide
    rw [e1, e2, e3, check4]
    rfl
  rw [if_neg (show ¬ ((b : Nat) : Int) = 244 by omega)]
  simp [firstT, checkN, show ¬ b < 128 by omega, c0, c1, c2, c3, c4, c5, c6, c7, c8]
/-- The library's validity, character by character of the document's. -/
theorem valid_wide (l : List UInt8) (hne : l ≠ []) : validD l = if wideR l = 0 then false else validD (l.drop (wideR l)) := by
  by_cases h0 : (l.getD 0 0).toNat < 128
  · have e : wideR l = 1 := by
      unfold wideR
      rw [if_neg hne, if_pos (show ((l.getD 0 0).toNat : Int) < 128 by omega)]
    rw [e, if_neg (by decide)]
    obtain ⟨b, t, rfl⟩ := List.exists_cons_of_ne_nil hne
    rw [List.drop_one, List.tail_cons]
    exact validD_cons b t (by simpa using h0)
  · have h1 : 128 ≤ (l.getD 0 0).toNat := by omega
    rw [validD_lead l hne h1, wide_check l hne h1]
    cases hc : checkN l.length (l.getD 1 0).toNat (l.getD 2 0).toNat (l.getD 3 0).toNat (firstT (l.getD 0 0).toNat % 8) (accLo (firstT (l.getD 0 0).toNat / 16)) (accHi (firstT (l.getD 0 0).toNat / 16)) with
    | none => rfl
    | some k =>
      have hk : k ≠ 0 := by
        unfold checkN at hc
        repeat' split at hc
        all_goals first | (injection hc with hc; omega) | cases hc
      simp [hk]
theorem wide_le (l : List UInt8) : wideR l ≤ l.length := by
  by_cases hne : l = []
  · subst hne; simp [wideR]
  · have hl : 0 < l.length := List.length_pos_iff.2 hne
    by_cases h0 : (l.getD 0 0).toNat < 128
    · have e : wideR l = 1 := by
        unfold wideR
        rw [if_neg hne, if_pos (show ((l.getD 0 0).toNat : Int) < 128 by omega)]
      omega
    · rw [wide_check l hne (by omega)]
      cases hc : checkN l.length (l.getD 1 0).toNat (l.getD 2 0).toNat (l.getD 3 0).toNat (firstT (l.getD 0 0).toNat % 8) (accLo (firstT (l.getD 0 0).toNat / 16)) (accHi (firstT (l.getD 0 0).toNat / 16)) with
      | none => simp
      | some k =>
        unfold checkN at hc
        repeat' split at hc
        all_goals first | (injection hc with hc; simp; omega) | cases hc
end Go.Proofs.YtodjcgkbcbaadaaDoor.Ut
