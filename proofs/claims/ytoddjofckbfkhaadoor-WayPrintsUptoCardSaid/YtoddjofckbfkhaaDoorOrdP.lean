/- The plain law of the order of numbers and texts. -/
import Derived.Test.YtoddjofckbfkhaaDoorSts
import Derived.Sort.Walk0
namespace Go.Proofs.YtoddjofckbfkhaaDoor.Wy
/-- A way to compare that is an order. -/
structure IsCmp {α : Type} (c : α → α → Int) : Prop where
  neg : ∀ a b, c a b = - c b a
  zero : ∀ a b, c a b = 0 ↔ a = b
  trans : ∀ a b d, c a b ≤ 0 → c b d ≤ 0 → c a d ≤ 0
theorem cmpZ_is : IsCmp cmpZ where
  neg a b := by unfold cmpZ; split <;> split <;> omega
  zero a b := by unfold cmpZ; split <;> (try split) <;> omega
  trans a b d := by unfold cmpZ; split <;> split <;> split <;> (try split) <;> (try split) <;> (try split) <;> omega
theorem cmpT_lt {s t : List UInt8} (h : s < t) : cmpT s t = -1 := by
  unfold cmpT; rw [bytesLess_eq, if_pos (by simpa using h)]
theorem cmpT_self (s : List UInt8) : cmpT s s = 0 := by
  unfold cmpT; rw [bytesLess_eq, if_neg (by simp), if_pos rfl]
theorem cmpT_gt {s t : List UInt8} (h : t < s) : cmpT s t = 1 := by
  unfold cmpT
  rw [bytesLess_eq, if_neg (by simpa using List.le_of_lt h), if_neg (fun e => by subst e; exact List.lt_irrefl _ h)]
theorem tri (s t : List UInt8) : s < t ∨ s = t ∨ t < s := by
  by_cases h1 : s < t
  · exact .inl h1
  · by_cases h2 : t < s
    · exact .inr (.inr h2)
    · exact .inr (.inl (List.le_antisymm (by simpa using h2) (by simpa using h1)))
theorem cmpT_is : IsCmp cmpT where
  neg a b := by
    rcases tri a b with h | h | h
    · rw [cmpT_lt h, cmpT_gt h]
    · subst h; rw [cmpT_self]; rfl
    · rw [cmpT_gt h, cmpT_lt h]; rfl
  zero a b := by
    rcases tri a b with h | h | h
    · rw [cmpT_lt h]; constructor
      · intro k; omega
      · rintro rfl; exact absurd h (List.lt_irrefl _)
    · subst h; simp [cmpT_self]
    · rw [cmpT_gt h]; constructor
      · intro k; omega
      · rintro rfl; exact absurd h (List.lt_irrefl _)
  trans a b d h1 h2 := by
    rcases tri a b with p | p | p
    · rcases tri b d with q | q | q
      · rw [cmpT_lt (List.lt_trans p q)]; omega
      · subst q; exact h1
      · rw [cmpT_gt q] at h2; omega
    · subst p; exact h2
    · rw [cmpT_gt p] at h1; omega
theorem IsCmp.back {α : Type} {c : α → α → Int} (h : IsCmp c) {a b d : α} (h1 : c a b ≤ 0) (h2 : c b d ≤ 0) (h3 : c a d = 0) : c a b = 0 ∧ c b d = 0 := by
  have e := (h.zero a d).1 h3
  subst e
  have := h.neg a b
  omega
/-- One behind the other. -/
def lex {α β : Type} (c : α → α → Int) (e : β → β → Int) (x y : α × β) : Int := if c x.1 y.1 = 0 then e x.2 y.2 else c x.1 y.1
theorem lex_is {α β : Type} {c : α → α → Int} {e : β → β → Int} (hc : IsCmp c) (he : IsCmp e) : IsCmp (lex c e) where
  neg x y := by
    unfold lex
    have := hc.neg x.1 y.1
    by_cases h : c x.1 y.1 = 0
    · rw [if_pos h, if_pos (by omega)]; exact he.neg _ _
    · rw [if_neg h, if_neg (by omega)]; exact this
  zero x y := by
    unfold lex
    by_cases h : c x.1 y.1 = 0
    · rw [if_pos h, he.zero, Prod.ext_iff, ← hc.zero]; simp [h]
    · rw [if_neg h, Prod.ext_iff, ← hc.zero]; simp [h]
  trans x y z h1 h2 := by
    unfold lex at *
    have k1 : c x.1 y.1 ≤ 0 := by split at h1 <;> omega
    have k2 : c y.1 z.1 ≤ 0 := by split at h2 <;> omega
    have k3 := hc.trans _ _ _ k1 k2
    split
    · rename_i h0
      obtain ⟨e1, e2⟩ := hc.back k1 k2 h0
      rw [if_pos e1] at h1
      rw [if_pos e2] at h2
      exact he.trans _ _ _ h1 h2
    · exact k3
/-- Rows, one element behind the other. -/
def lexL {α : Type} (c : α → α → Int) : List α → List α → Int
  | [], [] => 0
  | [], _ :: _ => -1
  | _ :: _, [] => 1
  | s :: l, t :: m => if c s t = 0 then lexL c l m else c s t
theorem lexL_is {α : Type} {c : α → α → Int} (hc : IsCmp c) : IsCmp (lexL c) where
  neg a := by
    induction a with
    | nil => intro b; cases b <;> simp [lexL]
    | cons s l ih =>
      intro b
      cases b with
      | nil => simp [lexL]
      | cons t m =>
        have := hc.neg s t
        rw [lexL, lexL]
        by_cases h : c s t = 0
        · rw [if_pos h, if_pos (by omega)]; exact ih m
        · rw [if_neg h, if_neg (by omega)]; exact this
  zero a := by
    induction a with
    | nil => intro b; cases b <;> simp [lexL]
    | cons s l ih =>
      intro b
      cases b with
      | nil => simp [lexL]
      | cons t m =>
        rw [lexL]
        by_cases h : c s t = 0
        · rw [if_pos h, ih m, List.cons.injEq, ← hc.zero]; simp [h]
        · rw [if_neg h, List.cons.injEq, ← hc.zero]; simp [h]
  trans a := by
    induction a with
    | nil => intro b d _ _; cases d <;> simp [lexL]
    | cons s l ih =>
      intro b d h1 h2
      cases b with
      | nil => simp [lexL] at h1
      | cons t m =>
        cases d with
        | nil => simp [lexL] at h2
        | cons u k =>
          rw [lexL] at *
          have k1 : c s t ≤ 0 := by split at h1 <;> omega
          have k2 : c t u ≤ 0 := by split at h2 <;> omega
          have k3 := hc.trans _ _ _ k1 k2
          split
          · rename_i h0
            obtain ⟨e1, e2⟩ := hc.back k1 k2 h0
            rw [if_pos e1] at h1
            rw [if_pos e2] at h2
            exact ih m k h1 h2
          · exact k3
end Go.Proofs.YtoddjofckbfkhaaDoor.Wy
