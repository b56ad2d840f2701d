/- The walk of ValueQuotes. -/
import Derived.Test.YtodjcgkbcbaadaaDoorQuoteW
namespace Go.Proofs.YtodjcgkbcbaadaaDoor.Wy
open Go.RowKit Mem Ops Ut Dg
set_option maxRecDepth 100000 in
set_option maxHeartbeats 2000000 in
theorem quotes_law (s : ByteArray) (w : World) (hs : s.size ≤ 1000000000000) (hT : Tabs w) :
    Calls Tryd.prog 3 #[.string s] w fun e w' => e = .returned (.bool true) ∧ Below w.heap.size w w' := by
  have L1 := Lib.hid (quote_calls s w hs hT)
  have L2 := Lib.hid (fun w1 => quoteRef_calls s w1 hs)
  unfold StrR at L1 L2
  generalize quoteR s.data.toList = Q at *
  have k0 := Below.refl w.heap.size w
  clear hs hT
  go_enter Tryd.func3, Tryd.ntmps3
  go_wp2_with (first | (go_at_call 11; refine L1.out.mono ?_; rintro e w1 ⟨rfl, hb1⟩) | (go_at_call 12; refine (L2.out _).mono ?_; rintro e w2 ⟨rfl, hb2⟩))
  all_goals go_ret
  all_goals first | exact ⟨rfl, hb1.trans (hb2.mono hb1.size)⟩ | skip
end Go.Proofs.YtodjcgkbcbaadaaDoor.Wy
