/- There and back, plain: a hash's digits read as that hash; a text that reads as a hash is its digits. -/
import Derived.Test.YtdanbjpfojgmiaaHexP
namespace Go.Proofs.Ytdanbjpfojgmiaa.Dg
open Mem

theorem dig_of (n : Nat) (hn : n < 16) : digI (hexDig n) = (n : Int) := by
  have h : ∀ m : Fin 16, digI (hexDig m.val) = (m.val : Int) := by decide +kernel
  exact h ⟨n, hn⟩
theorem of_dig (c : UInt8) (h : 0 ≤ digI c) : hexDig (digI c).toNat = c := by
  have k : ∀ m : Fin 256, 0 ≤ digI (UInt8.ofNat m.val) → hexDig (digI (UInt8.ofNat m.val)).toNat = UInt8.ofNat m.val := by decide +kernel
  have := k ⟨c.toNat, c.toNat_lt⟩ (by simpa using h)
  simpa using this
theorem two_dig (c : UInt8) : (((0 : UInt8) <<< 4 ||| (c.toNat / 16).toUInt8) <<< 4) ||| (c.toNat % 16).toUInt8 = c := by
  have k : ∀ m : Fin 256, (((0 : UInt8) <<< 4 ||| (m.val / 16).toUInt8) <<< 4) ||| (m.val % 16).toUInt8 = UInt8.ofNat m.val := by decide +kernel
  have := k ⟨c.toNat, c.toNat_lt⟩
  simpa using this
theorem two_back (i j : Nat) (hi : i < 16) (hj : j < 16) : (((0 : UInt8) <<< 4 ||| i.toUInt8) <<< 4 ||| j.toUInt8).toNat = 16 * i + j := by
  have k : ∀ m n : Fin 16, (((0 : UInt8) <<< 4 ||| m.val.toUInt8) <<< 4 ||| n.val.toUInt8).toNat = 16 * m.val + n.val := by decide +kernel
  exact k ⟨i, hi⟩ ⟨j, hj⟩

theorem set_append_at (l : List UInt8) (x y : UInt8) (m : List UInt8) : (l ++ x :: m).set l.length y = l ++ y :: m := by
  rw [List.set_append_right _ _ (Nat.le_refl _)]; simp
theorem getD_append_at (l : List UInt8) (x : UInt8) (m : List UInt8) : (l ++ x :: m).getD l.length 0 = x := by simp

/-- Two steps of reading, at an even place. -/
theorem unL_two (s p : List UInt8) (n : Nat) (m : List UInt8) (k : Nat) (hk : k = 2 * p.length) (h1 : k + 1 < s.length) :
    unL s (n + 2) k (p ++ 0 :: m) =
      if digI (s.getD k 0) < 0 then (z32, 10, (k : Int)) else if digI (s.getD (k + 1) 0) < 0 then (z32, 10, ((k + 1 : Nat) : Int))
        else unL s n (k + 2) (p ++ (((0 : UInt8) <<< 4 ||| (digI (s.getD k 0)).toNat.toUInt8) <<< 4 ||| (digI (s.getD (k + 1) 0)).toNat.toUInt8) :: m) := by
  rw [unL, if_pos (by omega)]
  split
  · rfl
  · rw [unL, if_pos h1]
    split
    · rfl
    · congr 1
      have e1 : k / 2 = p.length := by omega
      have e2 : (k + 1) / 2 = p.length := by omega
      simp only [stepH, e1, e2, getD_append_at, set_append_at]

theorem unL_hex : ∀ (h p : List UInt8), p.length + h.length = 32 → unL (hexL (p ++ h)) (2 * h.length) (2 * p.length) (p ++ List.replicate h.length 0) = (p ++ h, 0, 0)
  | [], p, hl => by
    have : (hexL p).length = 64 := by rw [length_hexL]; simp at hl; omega
    simp [unL, this]
  | c :: h, p, hl => by
    have hlen : (hexL (p ++ c :: h)).length = 64 := by rw [length_hexL]; simp at hl ⊢; omega
    have hcat : hexL (p ++ c :: h) = hexL p ++ (hexDig (c.toNat / 16) :: hexDig (c.toNat % 16) :: hexL h) := by simp [hexL]
    have hp2 : (hexL p).length = 2 * p.length := length_hexL p
    have g0 : (hexL (p ++ c :: h)).getD (2 * p.length) 0 = hexDig (c.toNat / 16) := by rw [hcat, ← hp2]; simp
    have g1 : (hexL (p ++ c :: h)).getD (2 * p.length + 1) 0 = hexDig (c.toNat % 16) := by
      rw [hcat, ← hp2, List.getD_eq_getElem?_getD, List.getElem?_append_right (by omega)]; simp
    have hc := c.toNat_lt
    rw [show 2 * (c :: h).length = 2 * h.length + 2 from by simp; omega, show List.replicate (c :: h).length (0 : UInt8) = 0 :: List.replicate h.length 0 from by simp [List.replicate_succ],
      unL_two _ p (2 * h.length) _ _ rfl (by rw [hlen]; simp at hl; omega), g0, g1, dig_of _ (by omega), dig_of _ (by omega), if_neg (by omega), if_neg (by omega)]
    simp only [Int.toNat_natCast]
    rw [two_dig]
    have ih := unL_hex h (p ++ [c]) (by simp at hl ⊢; omega)
    simp only [List.append_assoc, List.singleton_append, List.length_append, List.length_singleton] at ih
    rw [show 2 * (p.length + 1) = 2 * p.length + 2 from by omega] at ih
    exact ih

/-- A hash's digits read as that hash. -/
theorem unhex_hex (h : List UInt8) (hh : h.length = 32) : unhexR (hexL h) = (h, 0, 0) := by
  have := unL_hex h [] (by simpa using hh)
  simpa [unhexR, hh, z32] using this

theorem unL_err (s : List UInt8) : ∀ (n k : Nat) (h : List UInt8), (unL s n k h).2.1 = 0 ∨ (unL s n k h).2.1 = 10
  | 0, k, h => by rw [unL]; split <;> simp
  | n + 1, k, h => by
    rw [unL]
    split
    · split
      · simp
      · exact unL_err s n _ _
    · simp

theorem hex_unL (s : List UInt8) : ∀ (n : Nat) (p m : List UInt8), p.length + n = 32 → m.length = n → hexL p = s.take (2 * p.length) → 2 * p.length ≤ s.length → (∀ x ∈ m, x = 0) →
    (unL s (2 * n) (2 * p.length) (p ++ m)).2.1 = 0 → hexL (unL s (2 * n) (2 * p.length) (p ++ m)).1 = s
  | 0, p, m, hl, hm, hp, hs, _, he => by
    obtain rfl := List.length_eq_zero_iff.mp hm
    simp only [unL, List.append_nil] at he ⊢
    split at he
    · simp at he
    · rename_i h64
      rw [if_neg h64, hp]
      exact List.take_of_length_le (by omega)
  | n + 1, p, m, hl, hm, hp, hs, hz, he => by
    obtain ⟨x, m, rfl⟩ := List.exists_cons_of_length_eq_add_one hm
    obtain rfl : x = 0 := hz x (by simp)
    have h1 : 2 * p.length + 1 < s.length := by
      rcases Nat.lt_or_ge (2 * p.length + 1) s.length with q | q
      · exact q
      · rw [show 2 * (n + 1) = (2 * n + 1) + 1 from by omega, unL] at he
        split at he
        · split at he
          · simp at he
          · rw [unL, if_neg (by omega)] at he; simp at he
        · simp at he
    rw [show 2 * (n + 1) = 2 * n + 2 from by omega, unL_two s p (2 * n) m _ rfl h1] at he ⊢
    split at he
    · simp at he
    · rename_i d0
      split at he
      · simp at he
      · rename_i d1
        rw [if_neg d0, if_neg d1]
        have l0 := digI_lt (s.getD (2 * p.length) 0)
        have l1 := digI_lt (s.getD (2 * p.length + 1) 0)
        generalize hv : (((0 : UInt8) <<< 4 ||| (digI (s.getD (2 * p.length) 0)).toNat.toUInt8) <<< 4 ||| (digI (s.getD (2 * p.length + 1) 0)).toNat.toUInt8) = v at he ⊢
        have hvn : v.toNat = 16 * (digI (s.getD (2 * p.length) 0)).toNat + (digI (s.getD (2 * p.length + 1) 0)).toNat := by
          rw [← hv]; exact two_back _ _ (by omega) (by omega)
        have ih := hex_unL s n (p ++ [v]) m (by simp; omega) (by simpa using hm) (by
          rw [hexL_snoc, hp, hvn, show (16 * (digI (s.getD (2 * p.length) 0)).toNat + (digI (s.getD (2 * p.length + 1) 0)).toNat) / 16 = (digI (s.getD (2 * p.length) 0)).toNat from by omega,
            show (16 * (digI (s.getD (2 * p.length) 0)).toNat + (digI (s.getD (2 * p.length + 1) 0)).toNat) % 16 = (digI (s.getD (2 * p.length + 1) 0)).toNat from by omega,
            of_dig _ (by omega), of_dig _ (by omega)]
          rw [show 2 * (p ++ [v]).length = 2 * p.length + 1 + 1 from by simp; omega, take_snoc s (2 * p.length + 1) 0 h1, take_snoc s (2 * p.length) 0 (by omega)]
          simp) (by simp; omega) (fun x hx => hz x (by simp [hx])) (by simpa [show 2 * (p.length + 1) = 2 * p.length + 2 from by omega] using he)
        simpa [show 2 * (p.length + 1) = 2 * p.length + 2 from by omega] using ih

/-- A text that reads as a hash is its digits. -/
theorem hex_unhex (s : List UInt8) (he : (unhexR s).2.1 = 0) : hexL (unhexR s).1 = s := by
  have := hex_unL s 32 [] z32 rfl (by simp [z32]) rfl (by simp) (by simp [z32]) (by simpa [unhexR] using he)
  simpa [unhexR] using this
end Go.Proofs.Ytdanbjpfojgmiaa.Dg
