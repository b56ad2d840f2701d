/- The walk of WayCompares. -/
import Derived.Test.YtoddjofckbfkhaaUpW
namespace Go.Proofs.Ytoddjofckbfkhaa.Wy
open Go.RowKit Mem Ops
theorem starts_nil (l : List St) : startsR l [] = true := by
  unfold startsR; simp [eqL]
set_option maxRecDepth 100000 in
set_option maxHeartbeats 2000000 in
theorem compares_law (a a2 : Option Addr) (l m : List St) (n n2 cap cap2 : Nat) (w : World) (hn : n = l.length) (hn2 : n2 = m.length) (hl : l.length ≤ 4000000000) (hm : m.length ≤ 4000000000)
    (hc : n ≤ cap) (hc2 : n2 ≤ cap2) (hH : Sts w a l) (hH2 : Sts w a2 m) :
    Calls Try.prog 4 #[.slice a n cap, .slice a2 n2 cap2] w fun e w' => e = .returned (.bool true) ∧ Below w.heap.size w w' := by
  subst hn
  subst hn2
  have L1 := Lib.hid (lent_calls a l _ cap w rfl (by omega) hH)
  have L2 := Lib.hid (fun w1 (hb : Below w.heap.size w w1) => lent_calls a2 m _ cap2 w1 rfl (by omega) (hH2.below hb))
  go_enter Try.func4, Try.ntmps4
  go_wp2_with fail
  refine L1.out.mono ?_
  rintro e w1 ⟨g, c, rfl, hgc, _, hG, hb1, _⟩
  go_wp2_with fail
  refine (L2.out _ hb1).mono ?_
  rintro e w2 ⟨g2, c2, rfl, hgc2, _, hG2, hb2, _⟩
  have hB := hb1.trans (hb2.mono hb1.size)
  have hz := hB.size
  have G := hG.below hb2
  have h := hH.below hB
  have h2 := hH2.below hB
  have P1 := Lib.hid (fun w3 (hb : Below w2.heap.size w2 w3) => cmpWay_calls (some ⟨g, 0, none⟩) (some ⟨g2, 0, none⟩) l m _ _ c c2 w3 rfl rfl (by omega) (by omega) (G.below hb).left (hG2.below hb).left)
  have P2 := Lib.hid (fun w3 (hb : Below w2.heap.size w2 w3) => cmpRef_calls a a2 l m _ _ cap cap2 w3 rfl rfl (by omega) (by omega) (h.below hb) (h2.below hb))
  have P3 := Lib.hid (fun w3 (hb : Below w2.heap.size w2 w3) => starts_calls (some ⟨g, 0, none⟩) (some ⟨g2, 0, none⟩) l m _ _ c c2 w3 rfl rfl (by omega) (by omega) (by omega) (G.below hb).left (hG2.below hb).left)
  have P4 := Lib.hid (fun w3 (hb : Below w2.heap.size w2 w3) => startsRef_calls a a2 l m _ _ cap cap2 w3 rfl rfl (by omega) (by omega) hc (h.below hb) (h2.below hb))
  have P5 := Lib.hid (fun w3 (hb : Below w2.heap.size w2 w3) => up_calls (some ⟨g, 0, none⟩) l _ c w3 rfl (by omega) (by omega) (G.below hb).left)
  have P6 := Lib.hid (fun w3 (hb : Below w2.heap.size w2 w3) => upRef_calls a l _ cap w3 rfl hc (by omega) (h.below hb))
  have P7 := Lib.hid (fun w3 a5 a6 n5 n6 c5 c6 (e5 : n5 = l.dropLast.length) (e6 : n6 = l.dropLast.length) (h5 : Sts w3 a5 l.dropLast) (h6 : Sts w3 a6 l.dropLast) => same_calls a5 a6 l.dropLast l.dropLast n5 n6 c5 c6 w3 e5 e6 (by simp; omega) (by simp; omega) h5 h6)
  have P8 := Lib.hid (fun w3 (hb : Below w2.heap.size w2 w3) => kept_calls g a l _ _ c cap w3 rfl rfl (by omega) hgc (G.below hb) (h.below hb))
  have P9 := Lib.hid (fun w3 (hb : Below w2.heap.size w2 w3) => kept_calls g2 a2 m _ _ c2 cap2 w3 rfl rfl (by omega) hgc2 (hG2.below hb) (h2.below hb))
  have P10 := Lib.hid (fun w3 (hb : Below w2.heap.size w2 w3) => starts_calls (some ⟨g, 0, none⟩) none l [] l.length 0 c 0 w3 rfl rfl (by omega) (by simp) (by omega) (G.below hb).left (.inl rfl))
  have P11 := Lib.hid (fun w3 a5 (h5 : Sts w3 a5 [st0]) => cmpWay_calls none a5 [] [st0] 0 1 0 1 w3 rfl rfl (by simp) (by simp) (.inl rfl) h5)
  rw [starts_nil] at P10
  rw [cmpW_self] at P7
  rw [show cmpW [] [st0] = -1 from rfl] at P11
  generalize cmpW l m = X at *
  generalize startsR l m = Y at *
  clear hG hG2 G h h2 hH hH2 L1 L2 hl hm hc hc2 hgc hgc2 hb1 hb2
  have k0 := Below.refl w2.heap.size w2
  go_wp2_with fail
  refine (P1.out _ k0).mono ?_
  rintro e u1 ⟨rfl, b1⟩
  have k1 := k0.trans (b1.mono k0.size)
  go_wp2_with fail
  refine (P2.out _ k1).mono ?_
  rintro e u2 ⟨rfl, b2⟩
  have k2 := k1.trans (b2.mono k1.size)
  clear k1 b1 b2
  go_wp2_with fail
  refine (P3.out _ k2).mono ?_
  rintro e u3 ⟨rfl, b3⟩
  have k3 := k2.trans (b3.mono k2.size)
  clear k2 b3
  go_wp2_with fail
  refine (P4.out _ k3).mono ?_
  rintro e u4 ⟨rfl, b4⟩
  have k4 := k3.trans (b4.mono k3.size)
  clear k3 b4
  go_wp2_with fail
  refine (P5.out _ k4).mono ?_
  rintro e u5 ⟨a5, n5, c5, rfl, e5, h5, b5⟩
  have k5 := k4.trans (b5.mono k4.size)
  have E5 := Lib.hid e5
  clear k4 b5 e5
  go_wp2_with fail
  refine (P6.out _ k5).mono ?_
  rintro e u6 ⟨a6, n6, c6, rfl, e6, h6, b6⟩
  have k6 := k5.trans (b6.mono k5.size)
  have E6 := Lib.hid e6
  have H5 := Lib.hid (h5.below b6)
  have H6 := Lib.hid h6
  clear k5 b6 e6 h5 h6
  go_wp2_with fail
  refine (P7.out _ a5 a6 n5 n6 c5 c6 E5.out E6.out H5.out H6.out).mono ?_
  rintro e u7 ⟨rfl, b7⟩
  have k7 := k6.trans (b7.mono k6.size)
  clear k6 b7 E5 E6 H5 H6
  go_wp2_with fail
  refine (P8.out _ k7).mono ?_
  rintro e u8 ⟨rfl, b8⟩
  have k8 := k7.trans (b8.mono k7.size)
  clear k7 b8
  go_wp2_with fail
  refine (P9.out _ k8).mono ?_
  rintro e u9 ⟨rfl, b9⟩
  have k9 := k8.trans (b9.mono k8.size)
  clear k8 b9
  go_wp2_with fail
  refine (P10.out _ k9).mono ?_
  rintro e u10 ⟨rfl, b10⟩
  have k10 := k9.trans (b10.mono k9.size)
  clear k9 b10
  go_wp2_with (first | ((with_reducible refine pl_build0 ?_ ?_); (· rfl)) | ((with_reducible refine pl_lit1 st0 ?_ ?_ ?_); (· rfl); (· rfl)) | fail)
  refine (P11.out _ _ (st_new u10 st0)).mono ?_
  rintro e u11 ⟨rfl, b11⟩
  have k11 := (k10.alloc k10.size _).trans (b11.mono (by have := k10.size; simp; omega))
  clear k10 b11
  go_wp2_with fail
  go_ret
  exact ⟨rfl, hB.trans (k11.mono hz)⟩
end Go.Proofs.Ytoddjofckbfkhaa.Wy
