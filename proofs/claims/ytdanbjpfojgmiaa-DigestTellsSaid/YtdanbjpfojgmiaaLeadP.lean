/- The plain laws of Lead's number: it tells each hash of the list apart, and no smaller one does. -/
import Derived.Test.YtdanbjpfojgmiaaLeadX
import Derived.Test.YtdanbjpfojgmiaaFindW
namespace Go.Proofs.Ytdanbjpfojgmiaa.Dg
open Mem
theorem lcp_comm : ∀ l m : List UInt8, lcp l m = lcp m l
  | [], [] => rfl
  | [], _ :: _ => rfl
  | _ :: _, [] => rfl
  | a :: l, b :: m => by
    rw [lcp, lcp, lcp_comm l m]
    by_cases h : a = b
    · simp [h]
    · rw [if_neg h, if_neg (Ne.symm h)]
theorem leadJ_ge (a : List UInt8) : ∀ (l : List (List UInt8)) (n : Nat), n ≤ leadJ a l n
  | [], n => Nat.le_refl n
  | b :: l, n => by
    rw [leadJ]
    refine Nat.le_trans ?_ (leadJ_ge a l _)
    split <;> omega
theorem leadI_ge : ∀ (l pre : List (List UInt8)) (n : Nat), n ≤ leadI pre l n
  | [], _, n => Nat.le_refl n
  | a :: l, pre, n => Nat.le_trans (leadJ_ge a pre n) (by rw [leadI]; exact leadI_ge l _ _)
theorem leadJ_pair {a b : List UInt8} (h : a ≠ b) : ∀ (l : List (List UInt8)) (n : Nat), b ∈ l → lcp (hexL a) (hexL b) + 1 ≤ leadJ a l n
  | [], _, hb => by simp at hb
  | c :: l, n, hb => by
    rw [leadJ]
    rcases List.mem_cons.1 hb with rfl | hb
    · rw [if_neg h]
      exact Nat.le_trans (Nat.le_max_right _ _) (leadJ_ge a l _)
    · exact leadJ_pair h l _ hb
theorem leadI_pair {a b : List UInt8} (h : a ≠ b) : ∀ (l pre : List (List UInt8)) (n : Nat), a ∈ l → b ∈ pre → lcp (hexL a) (hexL b) + 1 ≤ leadI pre l n
  | [], _, _, ha, _ => by simp at ha
  | c :: l, pre, n, ha, hb => by
    rw [leadI]
    rcases List.mem_cons.1 ha with rfl | ha
    · exact Nat.le_trans (leadJ_pair h pre n hb) (leadI_ge l _ _)
    · exact leadI_pair h l _ _ ha (by simp [hb])
theorem leadI_both {a b : List UInt8} (h : a ≠ b) : ∀ (l pre : List (List UInt8)) (n : Nat), a ∈ l → b ∈ l → lcp (hexL a) (hexL b) + 1 ≤ leadI pre l n
  | [], _, _, ha, _ => by simp at ha
  | c :: l, pre, n, ha, hb => by
    rw [leadI]
    rcases List.mem_cons.1 ha with rfl | ha2
    · rcases List.mem_cons.1 hb with rfl | hb
      · exact absurd rfl h
      · rw [lcp_comm]; exact leadI_pair (Ne.symm h) l _ _ hb (by simp)
    · rcases List.mem_cons.1 hb with rfl | hb
      · exact leadI_pair h l _ _ ha2 (by simp)
      · exact leadI_both h l _ _ ha2 hb
theorem leadJ_le {a : List UInt8} (ha : a.length = 32) : ∀ (l : List (List UInt8)) (n : Nat), (∀ x ∈ l, x.length = 32) → n ≤ 64 → leadJ a l n ≤ 64
  | [], _, _, hn => hn
  | b :: l, n, hl, hn => by
    rw [leadJ]
    refine leadJ_le ha l _ (fun x hx => hl x (by simp [hx])) ?_
    split
    · exact hn
    · rename_i h; have := (lcp_hex ha (hl b (by simp)) h).1; omega
theorem leadI_le : ∀ (l pre : List (List UInt8)) (n : Nat), (∀ x ∈ l, x.length = 32) → (∀ x ∈ pre, x.length = 32) → n ≤ 64 → leadI pre l n ≤ 64
  | [], _, _, _, _, hn => hn
  | a :: l, pre, n, hl, hp, hn => by
    have ha := hl a (by simp)
    rw [leadI]
    refine leadI_le l _ _ (fun x hx => hl x (by simp [hx])) (fun x hx => ?_) (leadJ_le ha pre n hp hn)
    rcases List.mem_append.1 hx with h | h
    · exact hp x h
    · obtain rfl : x = a := by simpa using h
      exact ha
theorem leadR_le (l : List (List UInt8)) (hl : ∀ x ∈ l, x.length = 32) : leadR l ≤ 64 := leadI_le l [] 0 hl (by simp) (by omega)
theorem hexDig_digI : ∀ k : Fin 16, 0 ≤ digI (hexDig k.val) := by decide +kernel
theorem plain_hex (h : List UInt8) (n : Nat) : plainR ((hexL h).take n) = true := by
  rw [plainR, List.all_eq_true]
  intro x hx
  have hx := List.mem_of_mem_take hx
  rw [hexL, List.mem_flatMap] at hx
  obtain ⟨c, _, hc⟩ := hx
  have h1 := c.toNat_lt
  have e1 := hexDig_digI ⟨c.toNat / 16, by omega⟩
  have e2 := hexDig_digI ⟨c.toNat % 16, by omega⟩
  simp only [List.mem_cons, List.not_mem_nil, or_false] at hc
  rcases hc with rfl | rfl
  · exact decide_eq_true e1
  · exact decide_eq_true e2
theorem findR_some (p h : List UInt8) : ∀ l : List (List UInt8), (∀ g ∈ l, p <+: hexL g → g = h) → findR p l (some h) = (h, 0)
  | [], _ => rfl
  | g :: l, hl => by
    rw [findR_cons]
    have hl2 := findR_some p h l (fun x hx => hl x (by simp [hx]))
    split
    · rename_i hp
      obtain rfl := hl g (by simp) hp
      simpa using hl2
    · exact hl2
theorem findR_none (p h : List UInt8) (hp : p <+: hexL h) : ∀ l : List (List UInt8), (∀ g ∈ l, p <+: hexL g → g = h) → h ∈ l → findR p l none = (h, 0)
  | [], _, hm => by simp at hm
  | g :: l, hl, hm => by
    rw [findR_cons]
    split
    · rename_i hpg
      obtain rfl := hl g (by simp) hpg
      exact findR_some p g l (fun x hx => hl x (by simp [hx]))
    · rename_i hpg
      rcases List.mem_cons.1 hm with rfl | hm
      · exact absurd hp hpg
      · exact findR_none p h hp l (fun x hx => hl x (by simp [hx])) hm
/-- The short form with Lead's digits finds its hash. -/
theorem find_lead (l : List (List UInt8)) (hl : ∀ x ∈ l, x.length = 32) (h : List UInt8) (hm : h ∈ l) : findAll (shortR h (leadR l : Nat)) l = (h, 0) := by
  have hn := leadR_le l hl
  have hs : shortR h (leadR l : Nat) = (hexL h).take (leadR l) := by
    rw [shortR, show (min (max ((leadR l : Nat) : Int) 0) 64).toNat = leadR l from by omega]
  rw [hs, findAll, if_neg (by
    rw [plain_hex]; simp only [List.length_take, length_hexL, hl h hm]; intro k; rcases k with k | k
    · omega
    · cases k)]
  refine findR_none _ h (List.take_prefix _ _) l (fun g hg hp => ?_) hm
  by_cases hgh : g = h
  · exact hgh
  · have h1 := leadI_both (Ne.symm hgh) l [] 0 hm hg
    have h2 := List.prefix_iff_eq_take.1 hp
    rw [List.length_take, length_hexL, hl h hm, Nat.min_eq_left (by omega)] at h2
    have h3 := (take_lcp (hexL h) (hexL g) (leadR l) (by rw [length_hexL, hl h hm]; omega) (by rw [length_hexL, hl g hg]; omega)).1 h2
    have h4 : leadI [] l 0 = leadR l := rfl
    omega
theorem find_none : findAll [] [] = (z32, 4) := rfl
end Go.Proofs.Ytdanbjpfojgmiaa.Dg
