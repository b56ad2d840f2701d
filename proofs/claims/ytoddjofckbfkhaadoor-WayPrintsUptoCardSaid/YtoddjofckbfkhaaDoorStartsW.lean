/- The walk of way.Starts. -/
import Derived.Test.YtoddjofckbfkhaaDoorEqW
namespace Go.Proofs.YtoddjofckbfkhaaDoor.Wy
open Go.RowKit Mem Ops
def startsR (l m : List St) : Bool := if m.length ≤ l.length then eqL (l.take m.length) m else false
set_option maxRecDepth 100000 in
theorem starts_calls (a a2 : Option Addr) (l m : List St) (n n2 cap cap2 : Nat) (w : World) (hn : n = l.length) (hn2 : n2 = m.length) (_hl : l.length ≤ 140737488351232) (hm : m.length ≤ 140737488351232) (hcap : n ≤ cap) (hH : Sts w a l) (hH2 : Sts w a2 m) :
    Calls Tryd.prog 19 #[.slice a n cap, .slice a2 n2 cap2] w fun e w' => e = .returned (.bool (startsR l m)) ∧ Below w.heap.size w w' := by
  subst hn
  subst hn2
  rw [startsR]
  by_cases h : m.length ≤ l.length
  · rw [if_pos h]
    have hT : Sts w a (l.take m.length) := by
      have h1 : Sts w a (l.take m.length ++ l.drop m.length) := by rw [List.take_append_drop]; exact hH
      exact h1.left
    have he := equal_calls a a2 (l.take m.length) m m.length m.length cap cap2 w (by simp; omega) rfl (by simp; omega) hm hT hH2
    have HE := Lib.hid he
    have q0 : (0 : Int) ≤ (m.length : Int) := by omega
    have q1 : (m.length : Int) ≤ (l.length : Int) := by omega
    have q2 : (m.length : Int) ≤ (cap : Int) := by omega
    clear he h hT
    go_enter Tryd.func19, Tryd.ntmps19
    go_wp2_with fail
    refine HE.out.mono ?_
    rintro e w1 ⟨rfl, hb⟩
    go_wp2_with fail
    go_ret
    exact ⟨rfl, hb⟩
  · rw [if_neg h]
    have q1 : ¬ (m.length : Int) ≤ (l.length : Int) := by omega
    go_enter Tryd.func19, Tryd.ntmps19
    go_wp2_with fail
    go_ret
    exact ⟨rfl, Below.refl _ _⟩
end Go.Proofs.YtoddjofckbfkhaaDoor.Wy
