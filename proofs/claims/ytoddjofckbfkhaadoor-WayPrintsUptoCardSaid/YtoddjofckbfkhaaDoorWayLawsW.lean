/- The walks of WayJoins and WayUnder. -/
import Derived.Test.YtoddjofckbfkhaaDoorJoinW
import Derived.Test.YtoddjofckbfkhaaDoorStartsW
import Derived.Test.YtoddjofckbfkhaaDoorAhx
namespace Go.Proofs.YtoddjofckbfkhaaDoor.Wy
open Go.RowKit Mem Ops Ut
attribute [local irreducible] wpQuiet wpAnyH
theorem sl_st : SliceTy Tryd.prog 22 59 3 := ⟨Tryd.underlying22, by kernel_rfl, sizeOf_of size29⟩
theorem fnJoin : IsFn Tryd.prog 12 Tryd.f12 := ⟨Tryd.func12, by decide, rfl⟩
theorem len_join (l m : List St) : (joinW l m).length ≤ l.length + m.length := by
  unfold joinW; split <;> simp
set_option maxRecDepth 100000 in
set_option maxHeartbeats 2000000 in
theorem joins_law (a a2 : Option Addr) (l m : List St) (n n2 cap cap2 : Nat) (w : World) (hn : n = l.length) (hn2 : n2 = m.length) (hl : l.length ≤ 1000000000) (hm : m.length ≤ 1000000000) (hK : KeysOk (l ++ m)) (hT : Tabs w) (hH : Sts w a l) (hH2 : Sts w a2 m) :
    Calls Tryd.prog 3 #[.slice a n cap, .slice a2 n2 cap2] w fun e w' => e = .returned (.bool true) ∧ Below w.heap.size w w' := by
  subst hn
  subst hn2
  have L1 := Lib.hid (lent_calls a l _ cap w rfl (by omega) hH)
  have L2 := Lib.hid (fun w1 (hb : Below w.heap.size w w1) => lent_calls a2 m _ cap2 w1 rfl (by omega) (hH2.below hb))
  go_enter Tryd.func3, Tryd.ntmps3
  go_wp2_with fail
  refine L1.out.mono ?_
  rintro e w1 ⟨g, c, rfl, hgc, _, hG, hb1, _⟩
  go_wp2_with fail
  refine (L2.out _ hb1).mono ?_
  rintro e w2 ⟨g2, c2, rfl, hgc2, _, hG2, hb2, _⟩
  have hB := hb1.trans (hb2.mono hb1.size)
  have hz := hB.size
  have G := hG.below hb2
  have h := hH.below hB
  have h2 := hH2.below hB
  have T2 := hT.below hB
  have P1 := Lib.hid (fun w3 (hb : Below w2.heap.size w2 w3) => join_calls (some ⟨g, 0, none⟩) (some ⟨g2, 0, none⟩) l m _ _ c c2 w3 rfl rfl (by omega) hK (T2.below hb) (G.below hb).left (hG2.below hb).left)
  have P2 := Lib.hid (fun w3 (hb : Below w2.heap.size w2 w3) => joinRef_calls a a2 l m _ _ cap cap2 w3 rfl rfl (by omega) hK (h.below hb) (h2.below hb))
  have hj := len_join l m
  have P3 := Lib.hid (fun w3 a5 a6 n5 n6 c5 c6 (e5 : n5 = (joinW l m).length) (e6 : n6 = (joinW l m).length) (h5 : Sts w3 a5 (joinW l m)) (h6 : Sts w3 a6 (joinW l m)) => same_calls a5 a6 (joinW l m) (joinW l m) n5 n6 c5 c6 w3 e5 e6 (by omega) (by omega) h5 h6)
  rw [cmpW_self] at P3
  have P4 := Lib.hid (fun w3 (hb : Below w2.heap.size w2 w3) => kept_calls g a l _ _ c cap w3 rfl rfl (by omega) hgc (G.below hb) (h.below hb))
  have P5 := Lib.hid (fun w3 (hb : Below w2.heap.size w2 w3) => kept_calls g2 a2 m _ _ c2 cap2 w3 rfl rfl (by omega) hgc2 (hG2.below hb) (h2.below hb))
  clear hG hG2 G h h2 T2 hH hH2 hT L1 L2 hl hm hK hgc hgc2 hb1 hb2 hj
  unfold JoinTo at P1 P2
  generalize rightW (l ++ m) = r at *
  have k0 := Below.refl w2.heap.size w2
  go_wp2_with fail
  refine (P1.out _ k0).mono ?_
  rintro e u1 ⟨a5, n5, c5, rfl, e5, h5, b1⟩
  have k1 := k0.trans (b1.mono k0.size)
  have E5 := Lib.hid e5
  clear e5
  go_wp2_with fail
  refine (P2.out _ k1).mono ?_
  rintro e u2 ⟨a6, n6, c6, rfl, e6, h6, b2⟩
  have k2 := k1.trans (b2.mono k1.size)
  have E6 := Lib.hid e6
  have H5 := Lib.hid (h5.below b2)
  have H6 := Lib.hid h6
  clear k1 b1 b2 e6 h5 h6
  go_wp2_with fail
  refine (P3.out _ a5 a6 n5 n6 c5 c6 E5.out E6.out H5.out H6.out).mono ?_
  rintro e u3 ⟨rfl, b3⟩
  have k3 := k2.trans (b3.mono k2.size)
  clear k2 b3 E5 E6 H5 H6
  go_wp2_with fail
  refine (P4.out _ k3).mono ?_
  rintro e u4 ⟨rfl, b4⟩
  have k4 := k3.trans (b4.mono k3.size)
  clear k3 b4
  go_wp2_with fail
  refine (P5.out _ k4).mono ?_
  rintro e u5 ⟨rfl, b5⟩
  have k5 := k4.trans (b5.mono k4.size)
  clear k4 b5
  go_wp2_with fail
  go_ret
  exact ⟨rfl, hB.trans (k5.mono hz)⟩
theorem Sts.drop_at {w : World} {a : Option Addr} {l : List St} {n c k : Nat} (h : Sts w a l) (hn : n = l.length) (hc : n ≤ c) (hk : k ≤ n) : Sts w (if c = k then a else a.map (·.add (k * 3))) (l.drop k) := by
  subst hn
  by_cases e : k = l.length
  · subst e
    rw [List.drop_length]
    exact .inl rfl
  · rw [if_neg (by omega)]
    obtain ⟨b, off, rfl, hb, hc⟩ := h.addr (by omega)
    refine .inr ⟨b, off + k * 3, ?_, hb, fun i v hi => ?_⟩
    · simp [Addr.add]
    · have hi2 : i < (l.drop k).length * 3 := by
        rw [← length_flat]
        rcases Nat.lt_or_ge i ((l.drop k).flatMap St.cells).length with q | q
        · exact q
        · rw [List.getElem?_eq_none q] at hi; cases hi
      rw [List.length_drop] at hi2
      have h1 : i / 3 < (l.drop k).length := by rw [List.length_drop]; omega
      have h2 := flat_at (l.drop k) (i / 3) (i % 3) h1 (by omega)
      rw [show i / 3 * 3 + i % 3 = i from by omega] at h2
      rw [h2] at hi
      have h3 : (l.drop k).getD (i / 3) st0 = l.getD (k + i / 3) st0 := by
        simp [List.getD_eq_getElem?_getD, List.getElem?_drop]
      rw [h3] at hi
      have h4 := hc (k + i / 3) (by omega) (i % 3) v hi
      rw [show off + k * 3 + i = off + (k + i / 3) * 3 + i % 3 from by omega]
      exact h4
theorem sts_take {w : World} {a : Option Addr} {l : List St} (h : Sts w a l) (k : Nat) : Sts w a (l.take k) := by
  have h1 : Sts w a (l.take k ++ l.drop k) := by rw [List.take_append_drop]; exact h
  exact h1.left
theorem starts_take (l : List St) (k : Nat) (hk : k ≤ l.length) : startsR l (l.take k) = true := by
  unfold startsR
  rw [if_pos (by simp; omega), eqL_k, List.length_take, Nat.min_eq_left hk]
  simp

set_option maxRecDepth 100000 in
set_option maxHeartbeats 4000000 in
theorem under_law (a : Option Addr) (l : List St) (n cap : Nat) (q : Int) (w : World) (hn : n = l.length) (hl : l.length * 32 ≤ 140737488351232) (hc : n ≤ cap) (hK : KeysOk l) (hT : Tabs w) (hH : Sts w a l) :
    Calls Tryd.prog 4 #[.slice a n cap, .int .i64 q] w fun e w' => e = .returned (.bool true) ∧ Below w.heap.size w w' := by
  subst hn
  have hR0 := rightRef_calls a l l.length cap w rfl (by omega) hK hH
  obtain ⟨r, hr⟩ : ∃ r, rightW l = r := ⟨_, rfl⟩
  rw [hr] at hR0
  have R0 := Lib.hid hR0
  by_cases h0 : r = 0
  · subst h0
    -- how many steps are cut off
    have key : ∃ k : Nat, k ≤ l.length ∧ ((q < 0 ∧ k = l.length) ∨ (¬ q < 0 ∧ (l.length : Int) < q ∧ k = l.length) ∨ (¬ q < 0 ∧ ¬ (l.length : Int) < q ∧ q = (k : Int))) := by
      by_cases h1 : q < 0
      · exact ⟨l.length, Nat.le_refl _, .inl ⟨h1, rfl⟩⟩
      · by_cases h2 : (l.length : Int) < q
        · exact ⟨l.length, Nat.le_refl _, .inr (.inl ⟨h1, h2, rfl⟩)⟩
        · exact ⟨q.toNat, by omega, .inr (.inr ⟨h1, h2, by omega⟩)⟩
    obtain ⟨k, hk, key⟩ := key
    obtain ⟨A', hA⟩ : ∃ A', (if cap = k then a else a.map (·.add (k * 3))) = A' := ⟨_, rfl⟩
    have hD := hH.drop_at (c := cap) rfl hc hk
    rw [hA] at hD
    have hlt : (l.take k ++ l.drop k) = l := List.take_append_drop k l
    have hJ := Lib.hid (fun w1 (hb : Below w.heap.size w w1) => join_calls a A' (l.take k) (l.drop k) k (l.length - k) cap (cap - k) w1 (by simp; omega) (by simp) (by simp; omega) (by rw [hlt]; exact hK) (hT.below hb) ((sts_take hH k).below hb) (hD.below hb))
    have jo : joinW (l.take k) (l.drop k) = l := by unfold joinW; rw [hlt, if_pos hr]
    unfold JoinTo at hJ
    rw [jo, hlt, hr] at hJ
    have hU := Lib.hid (fun w1 (hb : Below w.heap.size w w1) => up_calls a l l.length cap w1 rfl hc (by omega) (hH.below hb))
    have hS := Lib.hid (fun w1 (hb : Below w.heap.size w w1) a5 n5 c5 (e5 : n5 = l.length) (h5 : Sts w1 a5 l) => same_calls a5 a l l n5 l.length c5 cap w1 e5 rfl (by omega) (by omega) h5 (hH.below hb))
    rw [cmpW_self] at hS
    have hP := Lib.hid (fun w1 (hb : Below w.heap.size w w1) => starts_calls a a l (l.take k) l.length k cap cap w1 rfl (by simp; omega) (by omega) (by simp; omega) hc (hH.below hb) ((sts_take hH k).below hb))
    rw [starts_take l k hk] at hP
    have hQ := Lib.hid (fun w1 (hb : Below w.heap.size w w1) a6 n6 c6 (e6 : n6 = l.dropLast.length) (h6 : Sts w1 a6 l.dropLast) => starts_calls a a6 l l.dropLast l.length n6 cap c6 w1 rfl e6 (by omega) (by simp; omega) hc (hH.below hb) h6)
    rw [List.dropLast_eq_take, starts_take l (l.length - 1) (by omega)] at hQ
    have hkc : k ≤ cap := by omega
    have b0 : (0 : Int) ≤ (k : Int) := by omega
    have b1 : (k : Int) ≤ (l.length : Int) := by omega
    have b2 : (k : Int) ≤ (cap : Int) := by omega
    have b3 : (l.length : Int) ≤ 4398046510976 := by omega
    have b4 : (l.length : Int) ≤ (cap : Int) := by omega
    have hz : l.length = 0 ∨ 0 < l.length := by omega
    have UL : Hid (∀ n6, n6 = (l.take (l.length - 1)).length → n6 = l.length - 1) := Lib.hid (fun n6 h => by simp at h; omega)
    unfold UpTo at hU
    rw [List.dropLast_eq_take] at hU
    clear hR0 hr hD hlt jo hH hT hK hl
    rcases key with ⟨q1, rfl⟩ | ⟨q1, q2, rfl⟩ | ⟨q1, q2, rfl⟩
    · go_enter Tryd.func4, Tryd.ntmps4
      go_wp2_with fail
      refine R0.out.mono ?_
      rintro e w1 ⟨rfl, hb1⟩
      go_wp2_with fail
      refine wp_region_held (S := Ext w1) (by kernel_rfl) ?_
      have hg0 := Ext.drawn w1
      refine ah_take (o := ⟨some 25, _, _, _, _, _⟩) 0 rfl (by kernel_rfl) (by kernel_rfl) (by kernel_rfl) (fun _ _ _ h => h) (by kernel_rfl) (fun w' hw' => rx_move (v := .slice a l.length cap) (by kernel_rfl)) hg0 ?_
      refine ah_take (o := ⟨some 26, _, _, _, _, _⟩) 1 rfl (by kernel_rfl) (by kernel_rfl) (by kernel_rfl) (fun _ _ _ h => h) (by kernel_rfl) (fun w' hw' => rx_move (v := .int .i64 (l.length : Int)) (by kernel_rfl)) hg0 ?_
      refine ah_take (o := ⟨some 27, _, _, _, _, _⟩) 2 rfl (by kernel_rfl) (by kernel_rfl) (by kernel_rfl) (fun _ _ _ h => h) (by kernel_rfl) (fun w' hw' => rx_slice_to (A := a) (n := l.length) (c := cap) (k := l.length) sl_st (by kernel_rfl) (by kernel_rfl) hkc) hg0 ?_
      refine ah_take (o := ⟨some 28, _, _, _, _, _⟩) 3 rfl (by kernel_rfl) (by kernel_rfl) (by kernel_rfl) (fun _ _ _ h => h) (by kernel_rfl) (fun w' hw' => rx_move (v := .slice a l.length cap) (by kernel_rfl)) hg0 ?_
      refine ah_take (o := ⟨some 29, _, _, _, _, _⟩) 4 rfl (by kernel_rfl) (by kernel_rfl) (by kernel_rfl) (fun _ _ _ h => h) (by kernel_rfl) (fun w' hw' => rx_move (v := .int .i64 (l.length : Int)) (by kernel_rfl)) hg0 ?_
      refine ah_take (o := ⟨some 30, _, _, _, _, _⟩) 5 rfl (by kernel_rfl) (by kernel_rfl) (by kernel_rfl) (fun _ _ _ h => h) (by kernel_rfl) (fun w' hw' => rx_slice_from (A := a) (A' := A') (n := l.length) (c := cap) (k := l.length) sl_st (by kernel_rfl) (by kernel_rfl) hk hA) hg0 ?_
      have hbq := hb1.trans (hg0.mono hb1.size)
      refine ah_callx 6 (by kernel_rfl) rfl fnJoin (by kernel_rfl) (vs := #[.slice a l.length cap, .slice A' (l.length - l.length) (cap - l.length)]) (by kernel_rfl) (hJ.out _ hbq) ?_
      rintro e w2 ⟨a5, n5, c5, rfl, e5, h5, b5⟩
      have hg1 := hg0.trans (b5.mono hg0.size)
      have hB2 := hb1.trans (hg1.mono hb1.size)
      refine ⟨_, rfl, hg1, ?_⟩
      refine ah_take (o := ⟨some 24, _, _, _, _, _⟩) 7 rfl (by kernel_rfl) (by kernel_rfl) (by kernel_rfl) (fun _ _ _ h => h) (by kernel_rfl) (fun w' hw' => rx_move (v := .tuple #[.slice a5 n5 c5, .int .i64 0]) (by kernel_rfl)) hg1 ?_
      refine ah_take (o := ⟨some 32, _, _, _, _, _⟩) 8 rfl (by kernel_rfl) (by kernel_rfl) (by kernel_rfl) (fun _ _ _ h => h) (by kernel_rfl) (fun w' hw' => rx_extract (v := .slice a5 n5 c5) (vs := #[.slice a5 n5 c5, .int .i64 0]) (by kernel_rfl) (by kernel_rfl)) hg1 ?_
      refine ah_take (o := ⟨some 33, _, _, _, _, _⟩) 9 rfl (by kernel_rfl) (by kernel_rfl) (by kernel_rfl) (fun _ _ _ h => h) (by kernel_rfl) (fun w' hw' => rx_extract (v := .int .i64 0) (vs := #[.slice a5 n5 c5, .int .i64 0]) (by kernel_rfl) (by kernel_rfl)) hg1 ?_
      refine ah_one (o := ⟨some 5, _, _, _, _, _⟩) (v := .slice a5 n5 c5) 10 (by kernel_rfl) rfl (by kernel_rfl) (rx_assign (by kernel_rfl)) hg1 ?_
      refine ah_one (o := ⟨some 6, _, _, _, _, _⟩) (v := .int .i64 0) 11 (by kernel_rfl) rfl (by kernel_rfl) (rx_assign (by kernel_rfl)) hg1 ?_
      refine wpAnyH_done (by kernel_rfl) ?_ _
      simp only [Act.put, List.setIfInBounds_toArray, List.set_cons_succ, List.set_cons_zero]
      have E5 := Lib.hid e5
      have H5 := Lib.hid h5
      clear hg0 hg1 hbq b5 e5 h5
      go_wp2_with fail
      refine (hU.out _ hB2).mono ?_
      rintro e w3 ⟨a6, n6, c6, rfl, e6, h6, b6⟩
      have hB3 := hB2.trans (b6.mono hB2.size)
      have E6 := Lib.hid e6
      have H6 := Lib.hid h6
      have H5' := Lib.hid (H5.out.below b6)
      have U6 := UL.out _ e6
      subst U6
      clear e6 h6 H5 b6
      go_wp2_with fail
      refine (hS.out _ hB3 a5 n5 c5 E5.out H5'.out).mono ?_
      rintro e w4 ⟨rfl, b7⟩
      have hB4 := hB3.trans (b7.mono hB3.size)
      have H6' := Lib.hid (H6.out.below b7)
      clear hB2 b7 H6 H5' E5
      go_wp2_with fail
      refine (hP.out _ hB4).mono ?_
      rintro e w5 ⟨rfl, b8⟩
      have hB5 := hB4.trans (b8.mono hB4.size)
      have H6 := Lib.hid (H6'.out.below b8)
      clear hB3 b8 H6'
      go_wp2_with fail
      refine (hQ.out _ hB5 a6 _ c6 E6.out H6.out).mono ?_
      rintro e w6 ⟨rfl, b9⟩
      have hB6 := hB5.trans (b9.mono hB5.size)
      clear hB4 b9 H6 E6
      rcases hz with hz | hz
      · have z1 : ((l.length : Int) == 0) = true := beq_iff_eq.mpr (by omega)
        have z2 : (((l.length - 1 : Nat) : Int) == 0) = true := beq_iff_eq.mpr (by omega)
        go_wp2_with fail
        go_ret
        exact ⟨rfl, hB6⟩
      · have z1 : ((l.length : Int) == 0) = false := beq_eq_false_iff_ne.mpr (by omega)
        have z2 : ((l.length - 1 : Nat) : Int) = (l.length : Int) - 1 := by omega
        go_wp2_with fail
        go_ret
        exact ⟨rfl, hB6⟩
    · go_enter Tryd.func4, Tryd.ntmps4
      go_wp2_with fail
      refine R0.out.mono ?_
      rintro e w1 ⟨rfl, hb1⟩
      go_wp2_with fail
      refine wp_region_held (S := Ext w1) (by kernel_rfl) ?_
      have hg0 := Ext.drawn w1
      refine ah_take (o := ⟨some 25, _, _, _, _, _⟩) 0 rfl (by kernel_rfl) (by kernel_rfl) (by kernel_rfl) (fun _ _ _ h => h) (by kernel_rfl) (fun w' hw' => rx_move (v := .slice a l.length cap) (by kernel_rfl)) hg0 ?_
      refine ah_take (o := ⟨some 26, _, _, _, _, _⟩) 1 rfl (by kernel_rfl) (by kernel_rfl) (by kernel_rfl) (fun _ _ _ h => h) (by kernel_rfl) (fun w' hw' => rx_move (v := .int .i64 (l.length : Int)) (by kernel_rfl)) hg0 ?_
      refine ah_take (o := ⟨some 27, _, _, _, _, _⟩) 2 rfl (by kernel_rfl) (by kernel_rfl) (by kernel_rfl) (fun _ _ _ h => h) (by kernel_rfl) (fun w' hw' => rx_slice_to (A := a) (n := l.length) (c := cap) (k := l.length) sl_st (by kernel_rfl) (by kernel_rfl) hkc) hg0 ?_
      refine ah_take (o := ⟨some 28, _, _, _, _, _⟩) 3 rfl (by kernel_rfl) (by kernel_rfl) (by kernel_rfl) (fun _ _ _ h => h) (by kernel_rfl) (fun w' hw' => rx_move (v := .slice a l.length cap) (by kernel_rfl)) hg0 ?_
      refine ah_take (o := ⟨some 29, _, _, _, _, _⟩) 4 rfl (by kernel_rfl) (by kernel_rfl) (by kernel_rfl) (fun _ _ _ h => h) (by kernel_rfl) (fun w' hw' => rx_move (v := .int .i64 (l.length : Int)) (by kernel_rfl)) hg0 ?_
      refine ah_take (o := ⟨some 30, _, _, _, _, _⟩) 5 rfl (by kernel_rfl) (by kernel_rfl) (by kernel_rfl) (fun _ _ _ h => h) (by kernel_rfl) (fun w' hw' => rx_slice_from (A := a) (A' := A') (n := l.length) (c := cap) (k := l.length) sl_st (by kernel_rfl) (by kernel_rfl) hk hA) hg0 ?_
      have hbq := hb1.trans (hg0.mono hb1.size)
      refine ah_callx 6 (by kernel_rfl) rfl fnJoin (by kernel_rfl) (vs := #[.slice a l.length cap, .slice A' (l.length - l.length) (cap - l.length)]) (by kernel_rfl) (hJ.out _ hbq) ?_
      rintro e w2 ⟨a5, n5, c5, rfl, e5, h5, b5⟩
      have hg1 := hg0.trans (b5.mono hg0.size)
      have hB2 := hb1.trans (hg1.mono hb1.size)
      refine ⟨_, rfl, hg1, ?_⟩
      refine ah_take (o := ⟨some 24, _, _, _, _, _⟩) 7 rfl (by kernel_rfl) (by kernel_rfl) (by kernel_rfl) (fun _ _ _ h => h) (by kernel_rfl) (fun w' hw' => rx_move (v := .tuple #[.slice a5 n5 c5, .int .i64 0]) (by kernel_rfl)) hg1 ?_
      refine ah_take (o := ⟨some 32, _, _, _, _, _⟩) 8 rfl (by kernel_rfl) (by kernel_rfl) (by kernel_rfl) (fun _ _ _ h => h) (by kernel_rfl) (fun w' hw' => rx_extract (v := .slice a5 n5 c5) (vs := #[.slice a5 n5 c5, .int .i64 0]) (by kernel_rfl) (by kernel_rfl)) hg1 ?_
      refine ah_take (o := ⟨some 33, _, _, _, _, _⟩) 9 rfl (by kernel_rfl) (by kernel_rfl) (by kernel_rfl) (fun _ _ _ h => h) (by kernel_rfl) (fun w' hw' => rx_extract (v := .int .i64 0) (vs := #[.slice a5 n5 c5, .int .i64 0]) (by kernel_rfl) (by kernel_rfl)) hg1 ?_
      refine ah_one (o := ⟨some 5, _, _, _, _, _⟩) (v := .slice a5 n5 c5) 10 (by kernel_rfl) rfl (by kernel_rfl) (rx_assign (by kernel_rfl)) hg1 ?_
      refine ah_one (o := ⟨some 6, _, _, _, _, _⟩) (v := .int .i64 0) 11 (by kernel_rfl) rfl (by kernel_rfl) (rx_assign (by kernel_rfl)) hg1 ?_
      refine wpAnyH_done (by kernel_rfl) ?_ _
      simp only [Act.put, List.setIfInBounds_toArray, List.set_cons_succ, List.set_cons_zero]
      have E5 := Lib.hid e5
      have H5 := Lib.hid h5
      clear hg0 hg1 hbq b5 e5 h5
      go_wp2_with fail
      refine (hU.out _ hB2).mono ?_
      rintro e w3 ⟨a6, n6, c6, rfl, e6, h6, b6⟩
      have hB3 := hB2.trans (b6.mono hB2.size)
      have E6 := Lib.hid e6
      have H6 := Lib.hid h6
      have H5' := Lib.hid (H5.out.below b6)
      have U6 := UL.out _ e6
      subst U6
      clear e6 h6 H5 b6
      go_wp2_with fail
      refine (hS.out _ hB3 a5 n5 c5 E5.out H5'.out).mono ?_
      rintro e w4 ⟨rfl, b7⟩
      have hB4 := hB3.trans (b7.mono hB3.size)
      have H6' := Lib.hid (H6.out.below b7)
      clear hB2 b7 H6 H5' E5
      go_wp2_with fail
      refine (hP.out _ hB4).mono ?_
      rintro e w5 ⟨rfl, b8⟩
      have hB5 := hB4.trans (b8.mono hB4.size)
      have H6 := Lib.hid (H6'.out.below b8)
      clear hB3 b8 H6'
      go_wp2_with fail
      refine (hQ.out _ hB5 a6 _ c6 E6.out H6.out).mono ?_
      rintro e w6 ⟨rfl, b9⟩
      have hB6 := hB5.trans (b9.mono hB5.size)
      clear hB4 b9 H6 E6
      rcases hz with hz | hz
      · have z1 : ((l.length : Int) == 0) = true := beq_iff_eq.mpr (by omega)
        have z2 : (((l.length - 1 : Nat) : Int) == 0) = true := beq_iff_eq.mpr (by omega)
        go_wp2_with fail
        go_ret
        exact ⟨rfl, hB6⟩
      · have z1 : ((l.length : Int) == 0) = false := beq_eq_false_iff_ne.mpr (by omega)
        have z2 : ((l.length - 1 : Nat) : Int) = (l.length : Int) - 1 := by omega
        go_wp2_with fail
        go_ret
        exact ⟨rfl, hB6⟩
    · go_enter Tryd.func4, Tryd.ntmps4
      go_wp2_with fail
      refine R0.out.mono ?_
      rintro e w1 ⟨rfl, hb1⟩
      go_wp2_with fail
      refine wp_region_held (S := Ext w1) (by kernel_rfl) ?_
      have hg0 := Ext.drawn w1
      refine ah_take (o := ⟨some 25, _, _, _, _, _⟩) 0 rfl (by kernel_rfl) (by kernel_rfl) (by kernel_rfl) (fun _ _ _ h => h) (by kernel_rfl) (fun w' hw' => rx_move (v := .slice a l.length cap) (by kernel_rfl)) hg0 ?_
      refine ah_take (o := ⟨some 26, _, _, _, _, _⟩) 1 rfl (by kernel_rfl) (by kernel_rfl) (by kernel_rfl) (fun _ _ _ h => h) (by kernel_rfl) (fun w' hw' => rx_move (v := .int .i64 (k : Int)) (by kernel_rfl)) hg0 ?_
      refine ah_take (o := ⟨some 27, _, _, _, _, _⟩) 2 rfl (by kernel_rfl) (by kernel_rfl) (by kernel_rfl) (fun _ _ _ h => h) (by kernel_rfl) (fun w' hw' => rx_slice_to (A := a) (n := l.length) (c := cap) (k := k) sl_st (by kernel_rfl) (by kernel_rfl) hkc) hg0 ?_
      refine ah_take (o := ⟨some 28, _, _, _, _, _⟩) 3 rfl (by kernel_rfl) (by kernel_rfl) (by kernel_rfl) (fun _ _ _ h => h) (by kernel_rfl) (fun w' hw' => rx_move (v := .slice a l.length cap) (by kernel_rfl)) hg0 ?_
      refine ah_take (o := ⟨some 29, _, _, _, _, _⟩) 4 rfl (by kernel_rfl) (by kernel_rfl) (by kernel_rfl) (fun _ _ _ h => h) (by kernel_rfl) (fun w' hw' => rx_move (v := .int .i64 (k : Int)) (by kernel_rfl)) hg0 ?_
      refine ah_take (o := ⟨some 30, _, _, _, _, _⟩) 5 rfl (by kernel_rfl) (by kernel_rfl) (by kernel_rfl) (fun _ _ _ h => h) (by kernel_rfl) (fun w' hw' => rx_slice_from (A := a) (A' := A') (n := l.length) (c := cap) (k := k) sl_st (by kernel_rfl) (by kernel_rfl) hk hA) hg0 ?_
      have hbq := hb1.trans (hg0.mono hb1.size)
      refine ah_callx 6 (by kernel_rfl) rfl fnJoin (by kernel_rfl) (vs := #[.slice a k cap, .slice A' (l.length - k) (cap - k)]) (by kernel_rfl) (hJ.out _ hbq) ?_
      rintro e w2 ⟨a5, n5, c5, rfl, e5, h5, b5⟩
      have hg1 := hg0.trans (b5.mono hg0.size)
      have hB2 := hb1.trans (hg1.mono hb1.size)
      refine ⟨_, rfl, hg1, ?_⟩
      refine ah_take (o := ⟨some 24, _, _, _, _, _⟩) 7 rfl (by kernel_rfl) (by kernel_rfl) (by kernel_rfl) (fun _ _ _ h => h) (by kernel_rfl) (fun w' hw' => rx_move (v := .tuple #[.slice a5 n5 c5, .int .i64 0]) (by kernel_rfl)) hg1 ?_
      refine ah_take (o := ⟨some 32, _, _, _, _, _⟩) 8 rfl (by kernel_rfl) (by kernel_rfl) (by kernel_rfl) (fun _ _ _ h => h) (by kernel_rfl) (fun w' hw' => rx_extract (v := .slice a5 n5 c5) (vs := #[.slice a5 n5 c5, .int .i64 0]) (by kernel_rfl) (by kernel_rfl)) hg1 ?_
      refine ah_take (o := ⟨some 33, _, _, _, _, _⟩) 9 rfl (by kernel_rfl) (by kernel_rfl) (by kernel_rfl) (fun _ _ _ h => h) (by kernel_rfl) (fun w' hw' => rx_extract (v := .int .i64 0) (vs := #[.slice a5 n5 c5, .int .i64 0]) (by kernel_rfl) (by kernel_rfl)) hg1 ?_
      refine ah_one (o := ⟨some 5, _, _, _, _, _⟩) (v := .slice a5 n5 c5) 10 (by kernel_rfl) rfl (by kernel_rfl) (rx_assign (by kernel_rfl)) hg1 ?_
      refine ah_one (o := ⟨some 6, _, _, _, _, _⟩) (v := .int .i64 0) 11 (by kernel_rfl) rfl (by kernel_rfl) (rx_assign (by kernel_rfl)) hg1 ?_
      refine wpAnyH_done (by kernel_rfl) ?_ _
      simp only [Act.put, List.setIfInBounds_toArray, List.set_cons_succ, List.set_cons_zero]
      have E5 := Lib.hid e5
      have H5 := Lib.hid h5
      clear hg0 hg1 hbq b5 e5 h5
      go_wp2_with fail
      refine (hU.out _ hB2).mono ?_
      rintro e w3 ⟨a6, n6, c6, rfl, e6, h6, b6⟩
      have hB3 := hB2.trans (b6.mono hB2.size)
      have E6 := Lib.hid e6
      have H6 := Lib.hid h6
      have H5' := Lib.hid (H5.out.below b6)
      have U6 := UL.out _ e6
      subst U6
      clear e6 h6 H5 b6
      go_wp2_with fail
      refine (hS.out _ hB3 a5 n5 c5 E5.out H5'.out).mono ?_
      rintro e w4 ⟨rfl, b7⟩
      have hB4 := hB3.trans (b7.mono hB3.size)
      have H6' := Lib.hid (H6.out.below b7)
      clear hB2 b7 H6 H5' E5
      go_wp2_with fail
      refine (hP.out _ hB4).mono ?_
      rintro e w5 ⟨rfl, b8⟩
      have hB5 := hB4.trans (b8.mono hB4.size)
      have H6 := Lib.hid (H6'.out.below b8)
      clear hB3 b8 H6'
      go_wp2_with fail
      refine (hQ.out _ hB5 a6 _ c6 E6.out H6.out).mono ?_
      rintro e w6 ⟨rfl, b9⟩
      have hB6 := hB5.trans (b9.mono hB5.size)
      clear hB4 b9 H6 E6
      rcases hz with hz | hz
      · have z1 : ((l.length : Int) == 0) = true := beq_iff_eq.mpr (by omega)
        have z2 : (((l.length - 1 : Nat) : Int) == 0) = true := beq_iff_eq.mpr (by omega)
        go_wp2_with fail
        go_ret
        exact ⟨rfl, hB6⟩
      · have z1 : ((l.length : Int) == 0) = false := beq_eq_false_iff_ne.mpr (by omega)
        have z2 : ((l.length - 1 : Nat) : Int) = (l.length : Int) - 1 := by omega
        go_wp2_with fail
        go_ret
        exact ⟨rfl, hB6⟩
  · have hV := Lib.hid (fun w1 (hb : Below w.heap.size w w1) => right_calls a l l.length cap w1 rfl (by omega) hK (hT.below hb) (hH.below hb))
    rw [hr] at hV
    have z1 : (r != 0) = true := by simpa using h0
    clear hR0 hr h0 hH hT hK hl hc
    go_enter Tryd.func4, Tryd.ntmps4
    go_wp2_with fail
    refine R0.out.mono ?_
    rintro e w1 ⟨rfl, hb1⟩
    go_wp2_with fail
    refine (hV.out _ hb1).mono ?_
    rintro e w2 ⟨rfl, hb2⟩
    go_wp2_with fail
    go_ret
    exact ⟨rfl, hb1.trans (hb2.mono hb1.size)⟩
end Go.Proofs.YtoddjofckbfkhaaDoor.Wy
