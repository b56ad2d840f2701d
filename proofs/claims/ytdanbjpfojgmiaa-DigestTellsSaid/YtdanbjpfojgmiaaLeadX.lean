/- For digest.Lead: a string's byte in a drawn region; the plain laws of the common beginning. -/
import Derived.Test.YtdanbjpfojgmiaaFindRW
import Derived.Test.YtdanbjpfojgmiaaBackP
namespace Go.Proofs.Ytdanbjpfojgmiaa.Ops
open Go.RowKit Mem
section
variable {P : Program} {ops : Array Oper} {rest : List Oper} {a : Act} {dst : Option Tmp} {ty : TypeId} {pos : String} {aft : Array Edge} {gd : Option (Nat × Bool)}
theorem rl_at {t : TypeId} {x y : Operand} {s : ByteArray} {j : Nat} {k : IntKind} {c : UInt8} (ht : P.underlying t = some .string) (hx : a.eval x = .string s) (hy : a.eval y = .int k (j : Int)) (hj : j < s.size) (hc : s.data.toList.getD j 0 = c) (w : World) :
    (execOp a.eval ⟨dst, .index t x y, ty, pos, aft, gd⟩).run P w = .ok (.value (.int .u8 c.toNat)) w := by
  subst hc
  have h := run_index_string (P := P) w t s k (j : Int) ht
  rw [dif_pos (by omega)] at h
  simp [execOp, hx, hy, h]
  rw [Go.Proofs.Ytdanbjpfojgmiaa.Dg.str_at s j hj]; simp
theorem qs_at {C : World → Prop} {Q : Act → Prop} {t : TypeId} {x y : Operand} {s : ByteArray} {j : Nat} {k : IntKind} {c : UInt8} (ht : P.underlying t = some .string) (hj : j < s.size) (hc : s.data.toList.getD j 0 = c) (hw : Region.wanted ⟨dst, .index t x y, ty, pos, aft, gd⟩ (yielded ops a.tmps) = true)
    (hx : a.eval x = .string s) (hy : a.eval y = .int k (j : Int)) (h : wpQuiet P ops C Q rest (a.put dst (.int .u8 c.toNat))) : wpQuiet P ops C Q (⟨dst, .index t x y, ty, pos, aft, gd⟩ :: rest) a :=
  qs_value hw (fun w _ => rl_at ht hx hy hj hc w) h
end
end Go.Proofs.Ytdanbjpfojgmiaa.Ops
namespace Go.Proofs.Ytdanbjpfojgmiaa.Dg
open Mem
theorem lcp_at : ∀ (l m : List UInt8) (t : Nat), t < lcp l m → l.getD t 0 = m.getD t 0 ∧ t < l.length ∧ t < m.length
  | [], _, t, h => by simp [lcp] at h
  | _ :: _, [], t, h => by simp [lcp] at h
  | a :: l, b :: m, t, h => by
    rw [lcp] at h
    split at h
    · rename_i hab
      cases t with
      | zero => simp [hab]
      | succ t => have := lcp_at l m t (by omega); simpa using this
    · omega
theorem lcp_ne : ∀ (l m : List UInt8), l.length = m.length → l ≠ m → lcp l m < l.length ∧ l.getD (lcp l m) 0 ≠ m.getD (lcp l m) 0
  | [], [], _, h => absurd rfl h
  | [], _ :: _, h, _ => by simp at h
  | _ :: _, [], h, _ => by simp at h
  | a :: l, b :: m, h, hn => by
    rw [lcp]
    split
    · rename_i hab
      have := lcp_ne l m (by simpa using h) (fun e => hn (by rw [hab, e]))
      simpa using this
    · rename_i hab; simpa using hab
theorem take_lcp : ∀ (l m : List UInt8) (t : Nat), t ≤ l.length → t ≤ m.length → (l.take t = m.take t ↔ t ≤ lcp l m)
  | _, _, 0, _, _ => by simp
  | [], _, t + 1, h, _ => by simp at h
  | _ :: _, [], t + 1, _, h => by simp at h
  | a :: l, b :: m, t + 1, h, k => by
    have := take_lcp l m t (by simpa using h) (by simpa using k)
    rw [lcp]
    split
    · rename_i hab; simp [hab, this]
    · rename_i hab; simp [hab]
theorem hexL_inj {a b : List UInt8} (ha : a.length = 32) (hb : b.length = 32) (h : hexL a = hexL b) : a = b := by
  have h1 := unhex_hex a ha
  rw [h, unhex_hex b hb] at h1
  exact (Prod.mk.inj h1).1.symm
theorem lcp_hex {a b : List UInt8} (ha : a.length = 32) (hb : b.length = 32) (h : a ≠ b) : lcp (hexL a) (hexL b) < 64 ∧ (hexL a).getD (lcp (hexL a) (hexL b)) 0 ≠ (hexL b).getD (lcp (hexL a) (hexL b)) 0 := by
  have := lcp_ne (hexL a) (hexL b) (by simp [length_hexL, ha, hb]) (fun e => h (hexL_inj ha hb e))
  rw [length_hexL, ha] at this; exact this
theorem take_drop_cons (l : List (List UInt8)) {k j : Nat} (hj : j < k) (hk : k ≤ l.length) : (l.take k).drop j = l.getD j [] :: (l.take k).drop (j + 1) := by
  rw [drop_consH _ j (by simp; omega)]
  congr 1
  rw [List.getD_eq_getElem?_getD, List.getElem?_take, if_pos hj, ← List.getD_eq_getElem?_getD]
theorem leadI_step (l : List (List UInt8)) {k : Nat} (hk : k < l.length) (n : Nat) : leadI (l.take k) (l.drop k) n = leadI (l.take (k + 1)) (l.drop (k + 1)) (leadJ (l.getD k []) (l.take k) n) := by
  rw [drop_consH l k hk, leadI]
  congr 1
  rw [List.take_add_one, List.getD_eq_getElem?_getD, List.getElem?_eq_getElem hk]; rfl
end Go.Proofs.Ytdanbjpfojgmiaa.Dg
