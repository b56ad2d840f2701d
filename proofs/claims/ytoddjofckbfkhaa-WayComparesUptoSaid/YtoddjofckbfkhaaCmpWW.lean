/- The walk of way.Compare. -/
import Derived.Test.YtoddjofckbfkhaaCmpFW
namespace Go.Proofs.Ytoddjofckbfkhaa.Wy
open Go.RowKit Mem Ops

theorem cmpWay_calls (a a2 : Option Addr) (l m : List St) (n n2 cap cap2 : Nat) (w : World) (hn : n = l.length) (hn2 : n2 = m.length) (hl : l.length ≤ 140737488351232) (hm : m.length ≤ 140737488351232) (hH : Sts w a l) (hH2 : Sts w a2 m) :
    Calls Try.prog 5 #[.slice a n cap, .slice a2 n2 cap2] w fun e w' => e = .returned (.int .i64 (cmpW l m)) ∧ Below w.heap.size w w' := by
  subst hn
  subst hn2
  have h := cmpF_calls a a2 l m _ _ cap cap2 w rfl rfl hl hm hH hH2
  have H := Lib.hid h
  clear h
  go_enter Try.func5, Try.ntmps5
  go_wp2_with (first | (go_at_call 14; refine H.out.mono ?_; rintro e w1 ⟨rfl, hb⟩))
  go_ret
  exact ⟨rfl, hb⟩
end Go.Proofs.Ytoddjofckbfkhaa.Wy
