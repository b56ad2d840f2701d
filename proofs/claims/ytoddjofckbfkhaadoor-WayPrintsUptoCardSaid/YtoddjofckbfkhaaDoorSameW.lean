/- The walks of estuaryref13.Same and of WayOrder; the plain law. -/
import Derived.Test.YtoddjofckbfkhaaDoorCmpRW
namespace Go.Proofs.YtoddjofckbfkhaaDoor.Wy
open Go.RowKit Mem Ops
theorem cmpW_neg (l m : List St) : cmpW l m = - cmpW m l := by rw [cmpW_k, cmpW_k]; exact (lexL_is cmpK_is).neg _ _
theorem cmpW_trans (l m k : List St) (h1 : cmpW l m ≤ 0) (h2 : cmpW m k ≤ 0) : cmpW l k ≤ 0 := by
  rw [cmpW_k] at *; exact (lexL_is cmpK_is).trans _ _ _ h1 h2
theorem cmpW_strict (l m k : List St) (h1 : cmpW l m < 0) (h2 : cmpW m k ≤ 0) : cmpW l k < 0 := by
  have h3 := cmpW_trans l m k (by omega) h2
  rw [cmpW_k] at *
  by_cases e : lexL cmpK (l.map St.k) (k.map St.k) = 0
  · have := (lexL_is cmpK_is).back (by omega) h2 e; omega
  · omega
theorem lexL_take {α : Type} {c : α → α → Int} (hc : IsCmp c) : ∀ (l : List α) (n : Nat), lexL c (l.take n) l ≤ 0
  | [], n => by simp [lexL]
  | x :: l, 0 => by simp [lexL]
  | x :: l, n + 1 => by
    rw [List.take_succ_cons, lexL, if_pos ((hc.zero x x).2 rfl)]; exact lexL_take hc l n
theorem starts_le (l m : List St) (h : startsR l m = true) : cmpW m l ≤ 0 ∧ m.length ≤ l.length := by
  unfold startsR at h
  split at h
  · rename_i hl
    refine ⟨?_, hl⟩
    rw [eqL_k, decide_eq_true_eq, List.map_take] at h
    rw [cmpW_k, ← h]
    exact lexL_take cmpK_is _ _
  · cases h
theorem cmpW_cases : ∀ l m : List St, cmpW l m = -1 ∨ cmpW l m = 0 ∨ cmpW l m = 1
  | [], [] => .inr (.inl rfl)
  | [], _ :: _ => .inl rfl
  | _ :: _, [] => .inr (.inr rfl)
  | s :: l, t :: m => by
    rw [cmpW]
    by_cases h : cmpSt s t = 0
    · rw [if_pos h]; exact cmpW_cases l m
    · rw [if_neg h]
      rcases cmpSt_cases s t h with ⟨e, _⟩ | ⟨e, _⟩ | ⟨e, _⟩ | ⟨e, _⟩ | ⟨e, _⟩ | ⟨e, _⟩ <;> simp [e]

theorem same_calls (a a2 : Option Addr) (l m : List St) (n n2 cap cap2 : Nat) (w : World) (hn : n = l.length) (hn2 : n2 = m.length) (hl : l.length ≤ 140737488351232) (hm : m.length ≤ 140737488351232) (hH : Sts w a l) (hH2 : Sts w a2 m) :
    Calls Tryd.prog 14 #[.slice a n cap, .slice a2 n2 cap2] w fun e w' => e = .returned (.bool (cmpW l m == 0)) ∧ Below w.heap.size w w' := by
  subst hn
  subst hn2
  have h := cmpRef_calls a a2 l m _ _ cap cap2 w rfl rfl hl hm hH hH2
  have H := Lib.hid h
  clear h
  go_enter Tryd.func14, Tryd.ntmps14
  go_wp2_with (first | (go_at_call 26; refine H.out.mono ?_; rintro e w1 ⟨rfl, hb⟩))
  go_ret
  exact ⟨rfl, hb⟩

end Go.Proofs.YtoddjofckbfkhaaDoor.Wy
