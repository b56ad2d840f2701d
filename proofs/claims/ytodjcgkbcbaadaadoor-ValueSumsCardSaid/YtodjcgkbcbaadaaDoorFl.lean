/- How two float64 words stand to each other, by their rungs. Plain Lean. -/
import Ieee.Arith
namespace Go.Proofs.YtodjcgkbcbaadaaDoor.Fl
open Ieee
def rung (x : Nat) : Nat := x % 9223372036854775808
def neg (x : Nat) : Bool := x / 9223372036854775808 % 2 == 1
def key (x : Nat) : Int := if neg x = true then -(rung x : Int) else (rung x : Int)
def nan (x : Nat) : Bool := decide (9218868437227405312 < rung x)
def val (r : Nat) : Nat := if r < 4503599627370496 then r else (4503599627370496 + r % 4503599627370496) * 2 ^ (r / 4503599627370496 - 1)
theorem val_succ (r : Nat) : val r < val (r + 1) := by
  unfold val
  by_cases h : r + 1 < 4503599627370496
  · rw [if_pos (by omega), if_pos h]; omega
  · rw [if_neg h]
    by_cases h1 : r < 4503599627370496
    · rw [if_pos h1]
      obtain rfl : r = 4503599627370495 := by omega
      decide
    · rw [if_neg h1]
      have hp := Nat.two_pow_pos (r / 4503599627370496 - 1)
      by_cases h2 : r % 4503599627370496 + 1 < 4503599627370496
      · rw [show (r + 1) % 4503599627370496 = r % 4503599627370496 + 1 from by omega, show (r + 1) / 4503599627370496 = r / 4503599627370496 from by omega]
        exact Nat.mul_lt_mul_of_pos_right (by omega) hp
      · rw [show (r + 1) % 4503599627370496 = 0 from by omega, show (r + 1) / 4503599627370496 - 1 = r / 4503599627370496 - 1 + 1 from by omega, show r % 4503599627370496 = 4503599627370495 from by omega, Nat.pow_succ]
        generalize 2 ^ (r / 4503599627370496 - 1) = p at *
        omega
theorem val_lt {r : Nat} : ∀ {s : Nat}, r < s → val r < val s
  | 0, h => by omega
  | s + 1, h => by
    have := val_succ s
    rcases Nat.lt_or_eq_of_le (Nat.le_of_lt_succ h) with q | rfl
    · have := val_lt q; omega
    · exact this
theorem val_iff (r s : Nat) : (val r < val s ↔ r < s) ∧ (val r = val s ↔ r = s) := by
  rcases Nat.lt_trichotomy r s with h | h | h
  · have := val_lt h; omega
  · subst h; simp
  · have := val_lt h; omega
theorem val_zero : val 0 = 0 := rfl
theorem signWeight_eq : double.signWeight = 9223372036854775808 := by decide
theorem binade_eq : double.binade = 4503599627370496 := by decide
theorem infRung_eq : double.infRung = 9218868437227405312 := by decide
theorem read_number (x : Nat) (h : rung x < 9218868437227405312) : ∃ m p : Nat, double.read x = .number (neg x) m (double.leastPlace + p) ∧ m * 2 ^ p = val (rung x) := by
  unfold Format.read
  simp only [signWeight_eq, binade_eq, infRung_eq]
  unfold rung at h
  unfold val rung neg
  by_cases h1 : x % 9223372036854775808 < 4503599627370496
  · rw [if_pos h1, if_pos h1]
    exact ⟨x % 9223372036854775808, 0, by simp, by simp⟩
  · rw [if_neg h1, if_neg h1, if_pos h]
    exact ⟨_, _, rfl, rfl⟩
theorem read_inf (x : Nat) (h : rung x = 9218868437227405312) : double.read x = .infinity (neg x) := by
  unfold Format.read
  simp only [signWeight_eq, binade_eq, infRung_eq]
  unfold rung at h
  rw [if_neg (by omega), if_neg (by omega), if_pos h]
  rfl
theorem read_nan (x : Nat) (h : 9218868437227405312 < rung x) : ∃ k, double.read x = .nan (neg x) k := by
  unfold Format.read
  simp only [signWeight_eq, binade_eq, infRung_eq]
  unfold rung at h
  rw [if_neg (by omega), if_neg (by omega), if_neg (by omega)]
  exact ⟨_, rfl⟩
theorem cmp_def (a b : Int) : compare a b = if a < b then .lt else if a = b then .eq else .gt := rfl
theorem cmp_lt {a b : Int} (h : a < b) : compare a b = .lt := by rw [cmp_def, if_pos h]
theorem cmp_gt {a b : Int} (h : b < a) : compare a b = .gt := by rw [cmp_def, if_neg (by omega), if_neg (by omega)]
theorem cmp_iff {a b c d : Int} (h1 : a < b ↔ c < d) (h2 : a = b ↔ c = d) : compare a b = compare c d := by
  rw [cmp_def, cmp_def]
  by_cases h : a < b
  · rw [if_pos h, if_pos (h1.1 h)]
  · rw [if_neg h, if_neg (fun q => h (h1.2 q))]
    by_cases e : a = b
    · rw [if_pos e, if_pos (h2.1 e)]
    · rw [if_neg e, if_neg (fun q => e (h2.2 q))]
def sg (b : Bool) (n : Nat) : Int := if b = true then -(n : Int) else (n : Int)
theorem sg_mono {a c k l : Nat} (s t : Bool) (h1 : a < c ↔ k < l) (h2 : a = c ↔ k = l) (h3 : a = 0 ↔ k = 0) (h4 : c = 0 ↔ l = 0) : compare (sg s a) (sg t c) = compare (sg s k) (sg t l) := by
  apply cmp_iff <;> (unfold sg; cases s <;> cases t <;> simp <;> omega)
theorem scale (a c k : Nat) : (a * 2 ^ k < c * 2 ^ k ↔ a < c) ∧ (a * 2 ^ k = c * 2 ^ k ↔ a = c) := by
  have h := Nat.two_pow_pos k
  exact ⟨Nat.mul_lt_mul_right h, Nat.mul_left_inj (by omega)⟩
theorem order_number (s t : Bool) (m n p q : Nat) (l : Int) {r u : Nat} (h1 : m * 2 ^ p = val r) (h2 : n * 2 ^ q = val u) :
    Datum.order (.number s m (l + p)) (.number t n (l + q)) = some (compare (sg s r) (sg t u)) := by
  show some (compare (signed s m (l + p - min (l + p) (l + q)).toNat) (signed t n (l + q - min (l + p) (l + q)).toNat)) = _
  congr 1
  have e1 : ∀ b c k, signed b c k = sg b (c * 2 ^ k) := fun b c k => by unfold signed sg; rw [Nat.shiftLeft_eq]
  have e2 : (l + p - min (l + p) (l + q)).toNat = p - min p q := by omega
  have e3 : (l + q - min (l + p) (l + q)).toNat = q - min p q := by omega
  rw [e1, e1, e2, e3]
  have e4 : m * 2 ^ (p - min p q) * 2 ^ min p q = val r := by rw [Nat.mul_assoc, ← Nat.pow_add, Nat.sub_add_cancel (by omega), h1]
  have e5 : n * 2 ^ (q - min p q) * 2 ^ min p q = val u := by rw [Nat.mul_assoc, ← Nat.pow_add, Nat.sub_add_cancel (by omega), h2]
  have z := val_iff r u
  have z1 := val_iff r 0
  have z2 := val_iff u 0
  have s1 := scale (m * 2 ^ (p - min p q)) (n * 2 ^ (q - min p q)) (min p q)
  have s2 := scale (m * 2 ^ (p - min p q)) 0 (min p q)
  have s3 := scale (n * 2 ^ (q - min p q)) 0 (min p q)
  rw [e4, e5] at s1
  rw [e4] at s2
  rw [e5] at s3
  rw [val_zero] at z1 z2
  rw [Nat.zero_mul] at s2 s3
  exact sg_mono s t (s1.1.symm.trans z.1) (s1.2.symm.trans z.2) (s2.2.symm.trans z1.2) (s3.2.symm.trans z2.2)
/-- Two words, no NaN: as their keys. -/
theorem order_key (x y : Nat) (hx : nan x = false) (hy : nan y = false) : double.order x y = some (compare (key x) (key y)) := by
  unfold nan at hx hy
  rw [decide_eq_false_iff_not] at hx hy
  unfold Format.order
  have kx : key x = sg (neg x) (rung x) := rfl
  have ky : key y = sg (neg y) (rung y) := rfl
  rw [kx, ky]
  rcases Nat.lt_or_ge (rung x) 9218868437227405312 with h1 | h1
  · obtain ⟨m, p, r1, v1⟩ := read_number x h1
    rw [r1]
    rcases Nat.lt_or_ge (rung y) 9218868437227405312 with h2 | h2
    · obtain ⟨n, q, r2, v2⟩ := read_number y h2
      rw [r2]
      exact order_number _ _ _ _ _ _ _ v1 v2
    · rw [read_inf y (by omega)]
      show some (if neg y = true then Ordering.gt else .lt) = _
      cases neg x <;> cases neg y <;> first | (rw [cmp_lt (by simp [sg]; omega)]; rfl) | (rw [cmp_gt (by simp [sg]; omega)]; rfl)
  · rw [read_inf x (by omega)]
    rcases Nat.lt_or_ge (rung y) 9218868437227405312 with h2 | h2
    · obtain ⟨n, q, r2, v2⟩ := read_number y h2
      rw [r2]
      show some (if neg x = true then Ordering.lt else .gt) = _
      cases neg x <;> cases neg y <;> first | (rw [cmp_lt (by simp [sg]; omega)]; rfl) | (rw [cmp_gt (by simp [sg]; omega)]; rfl)
    · rw [read_inf y (by omega)]
      obtain e1 : rung x = 9218868437227405312 := by omega
      obtain e2 : rung y = 9218868437227405312 := by omega
      rw [e1, e2]
      cases neg x <;> cases neg y <;> rfl
theorem order_nan (x y : Nat) (h : nan x = true ∨ nan y = true) : double.order x y = none := by
  unfold nan at h
  simp only [decide_eq_true_eq] at h
  unfold Format.order
  rcases h with h | h
  · obtain ⟨k, e⟩ := read_nan x h
    rw [e]; rfl
  · obtain ⟨k, e⟩ := read_nan y h
    rw [e]
    cases double.read x <;> rfl
end Go.Proofs.YtodjcgkbcbaadaaDoor.Fl
