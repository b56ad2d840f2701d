/- The walk of WayPrints. -/
import Derived.Test.YtoddjofckbfkhaaDoorPrintW
import Derived.Test.YtoddjofckbfkhaaDoorWayLawsW
namespace Go.Proofs.YtoddjofckbfkhaaDoor.Wy
open Go.RowKit Mem Ops Ut Dg
attribute [local irreducible] wpQuiet wpAnyH
set_option maxRecDepth 100000 in
set_option maxHeartbeats 2000000 in
theorem prints_law (a : Option Addr) (l : List St) (n cap : Nat) (w : World) (hn : n = l.length) (hl : l.length ≤ 1000000000) (hK : KeysOk l) (hT : Tabs w) (h10 : Tab10 w) (hH : Sts w a l) :
    Calls Tryd.prog 5 #[.slice a n cap] w fun e w' => e = .returned (.bool true) ∧ Below w.heap.size w w' := by
  subst hn
  have L1 := Lib.hid (lent_calls a l _ cap w rfl (by omega) hH)
  go_enter Tryd.func5, Tryd.ntmps5
  go_wp2_with fail
  refine L1.out.mono ?_
  rintro e w1 ⟨g, c, rfl, hgc, _, hG, hb1, _⟩
  have h := hH.below hb1
  have T1 := hT.below hb1
  have t1 : Tab10 w1 := Lib.tabBelow_of_tabIs h10 _ hb1
  have P1 := Lib.hid (print_calls (some ⟨g, 0, none⟩) l _ c w1 rfl (by omega) hK T1 t1 hG.left)
  have P2 := Lib.hid (fun w3 (hb : Below w1.heap.size w1 w3) => printRef_calls a l _ cap w3 rfl (by omega) hK (Lib.tabBelow_of_tabIs t1 _ hb) (h.below hb))
  have P3 := Lib.hid (fun w3 (hb : Below w1.heap.size w1 w3) => right_calls (some ⟨g, 0, none⟩) l _ c w3 rfl (by omega) hK (T1.below hb) (hG.below hb).left)
  have P4 := Lib.hid (fun w3 (hb : Below w1.heap.size w1 w3) => rightRef_calls a l _ cap w3 rfl (by omega) hK (h.below hb))
  have P5 := Lib.hid (fun w3 (hb : Below w1.heap.size w1 w3) => kept_calls g a l _ _ c cap w3 rfl rfl (by omega) hgc (hG.below hb) (h.below hb))
  clear hG h T1 t1 hT h10 hH L1 hl hK hgc
  unfold PrintTo at P1 P2
  generalize rightW l = r at *
  generalize printW l = S at *
  go_wp2_with fail
  refine P1.out.mono ?_
  rintro e u1 ⟨rfl, k1⟩
  go_wp2_with fail
  refine (P2.out _ k1).mono ?_
  rintro e u2 ⟨rfl, b2⟩
  have k2 := k1.trans (b2.mono k1.size)
  clear k1 b2
  go_wp2_with fail
  refine (P3.out _ k2).mono ?_
  rintro e u3 ⟨rfl, b3⟩
  have k3 := k2.trans (b3.mono k2.size)
  clear k2 b3
  go_wp2_with fail
  refine (P4.out _ k3).mono ?_
  rintro e u4 ⟨rfl, b4⟩
  have k4 := k3.trans (b4.mono k3.size)
  clear k3 b4
  go_wp2_with fail
  refine (P5.out _ k4).mono ?_
  rintro e u5 ⟨rfl, b5⟩
  have k5 := k4.trans (b5.mono k4.size)
  go_wp2_with fail
  go_ret
  exact ⟨rfl, hb1.trans (k5.mono hb1.size)⟩
end Go.Proofs.YtoddjofckbfkhaaDoor.Wy
