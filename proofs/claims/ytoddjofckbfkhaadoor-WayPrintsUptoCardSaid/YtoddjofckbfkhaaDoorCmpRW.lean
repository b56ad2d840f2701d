/- The walk of estuaryref13.Compare. -/
import Derived.Test.YtoddjofckbfkhaaDoorOrdW
import Derived.Test.YtoddjofckbfkhaaDoorAh
import Derived.Test.YtoddjofckbfkhaaDoorHs
import Derived.Deep.CutRange
namespace Go.Proofs.YtoddjofckbfkhaaDoor.Wy
open Go.RowKit Mem Ops
attribute [local irreducible] wpQuiet wpAnyH
section
variable {a : Act} {w : World} {dst : Option Tmp} {ty : TypeId} {pos : String} {aft : Array Edge} {gd : Option (Nat × Bool)}
theorem rl_move {P : Program} {x : Operand} {v : Value} (hx : a.eval x = v) : (execOp a.eval ⟨dst, .move x, ty, pos, aft, gd⟩).run P w = .ok (.value v) w := by
  simp [execOp, hx]
theorem rl_alloc_st : (execOp a.eval ⟨dst, .alloc 59, ty, pos, aft, gd⟩).run Tryd.prog w = .ok (.value (.pointer (some ⟨w.heap.size, 0, none⟩))) (w.alloc (.cells st0.cells.toArray 59)) := rl_alloc (zeroIs_of_info zero29)
end
theorem pl_eql_st {ops : Array Oper} {rest : List Oper} {a : Act} {w : World} {Q : Exit → Act → World → Prop} {dst : Option Tmp} {ty : TypeId} {pos : String} {aft : Array Edge} {gd : Option (Nat × Bool)} {yt : TypeId} {x y : Operand} {r : Bool} (s t : St) (hr : eqSt s t = r) (hw : Region.wanted ⟨dst, .binOp .eql 59 x y yt, ty, pos, aft, gd⟩ (yielded ops a.tmps) = true)
    (ex : a.eval x = .agg s.cells.toArray) (ey : a.eval y = .agg t.cells.toArray) (h : wpList Tryd.prog ops Q rest (a.put dst (.bool r)) w) : wpList Tryd.prog ops Q (⟨dst, .binOp .eql 59 x y yt, ty, pos, aft, gd⟩ :: rest) a w :=
  pl_value hw (rl_eql_st s t hr ex ey) h
/-- How two steps that part are told apart. -/
theorem cmpSt_cases (s t : St) (h : ¬ cmpSt s t = 0) :
    (cmpSt s t = -1 ∧ decide (s.kind < t.kind) = true) ∨ (cmpSt s t = 1 ∧ decide (s.kind < t.kind) = false ∧ (s.kind == t.kind) = false) ∨
    (cmpSt s t = -1 ∧ decide (s.kind < t.kind) = false ∧ (s.kind == t.kind) = true ∧ Op.bytesLess s.key.toList t.key.toList = true) ∨
    (cmpSt s t = 1 ∧ decide (s.kind < t.kind) = false ∧ (s.kind == t.kind) = true ∧ Op.bytesLess s.key.toList t.key.toList = false ∧ (s.key.toList == t.key.toList) = false) ∨
    (cmpSt s t = -1 ∧ decide (s.kind < t.kind) = false ∧ (s.kind == t.kind) = true ∧ Op.bytesLess s.key.toList t.key.toList = false ∧ (s.key.toList == t.key.toList) = true ∧ decide (s.num < t.num) = true) ∨
    (cmpSt s t = 1 ∧ decide (s.kind < t.kind) = false ∧ (s.kind == t.kind) = true ∧ Op.bytesLess s.key.toList t.key.toList = false ∧ (s.key.toList == t.key.toList) = true ∧ decide (s.num < t.num) = false) := by
  unfold cmpSt cmpZ cmpT at *
  simp only [orL] at *
  by_cases h1 : s.kind < t.kind
  · simp [h1]
  · by_cases h2 : s.kind = t.kind
    · simp only [h2] at *
      by_cases h3 : Op.bytesLess s.key.toList t.key.toList = true
      · simp [h3]
      · by_cases h4 : s.key.toList = t.key.toList
        · simp only [h4] at *
          by_cases h5 : s.num < t.num
          · simp_all
          · by_cases h6 : t.num < s.num
            · simp_all
              rw [if_neg (by omega)]
              simp
              omega
            · simp_all
        · simp_all
    · have h3 : t.kind < s.kind := by omega
      simp [h1, h2, h3]
/-- Two steps lie there, new. -/
def TwoSt (s t : St) (w : World) (v6 v7 : Value) (wx : World) : Prop :=
  ∃ g1 g2, v6 = .pointer (some ⟨g1, 0, none⟩) ∧ v7 = .pointer (some ⟨g2, 0, none⟩) ∧ Blk wx g1 s.cells.toArray 59 ∧ Blk wx g2 t.cells.toArray 59 ∧ Below w.heap.size w wx

set_option maxRecDepth 100000 in
set_option maxHeartbeats 4000000 in
theorem cmpRef_calls (a a2 : Option Addr) (l m : List St) (n n2 cap cap2 : Nat) (w : World) (hn : n = l.length) (hn2 : n2 = m.length) (hl : l.length ≤ 140737488351232) (hm : m.length ≤ 140737488351232) (hH : Sts w a l) (hH2 : Sts w a2 m) :
    Calls Tryd.prog 26 #[.slice a n cap, .slice a2 n2 cap2] w fun e w' => e = .returned (.int .i64 (cmpW l m)) ∧ Below w.heap.size w w' := by
  subst hn
  subst hn2
  generalize hR : cmpW l m = R
  have HR : Hid (cmpW (l.drop 0) (m.drop 0) = R) := Lib.hid hR
  clear hR
  go_enter Tryd.func26, Tryd.ntmps26
  go_wp2_with fail
  go_loopw [5] (fun i wr => ∃ k : Nat, k ≤ l.length ∧ k ≤ m.length ∧ i = .int .i64 k ∧ Below w.heap.size w wr ∧ Hid (cmpW (l.drop k) (m.drop k) = R)) (fun i _ => l.length - (intOf i).toNat)
  case atStart => exact ⟨0, Nat.zero_le _, Nat.zero_le _, rfl, Below.refl _ _, HR⟩
  case round =>
    clear HR
    obtain ⟨k, hk, hk2, rfl, hbel, hr⟩ := hrel

    by_cases hlt : k < l.length
    · have q1 : (k : Int) < (l.length : Int) := by omega
      by_cases hlt2 : k < m.length
      · obtain ⟨b, off, rfl, hb, hc⟩ := hH.addr (by omega)
        obtain ⟨b2, off2, rfl, hb2, hc2⟩ := hH2.addr (by omega)
        have hrk := rangeAt_below (hc k hlt) hbel hb
        have hrk2 := rangeAt_below (hc2 k hlt2) hbel hb2
        have hR := hr.out
        rw [cmpW_drop l m k hlt hlt2] at hR
        have HR := Lib.hid hR
        clear hr hR
        generalize l.getD k st0 = s at *
        generalize m.getD k st0 = t at *
        have q2 : (k : Int) < (m.length : Int) := by omega
        have hws := hbel.size
        have lb1 := Nat.lt_of_lt_of_le hb hws
        have lb2 := Nat.lt_of_lt_of_le hb2 hws
        go_upto_region 4 with fail
        go_cut [6, 7] from 8 to 63 (fun v6 v7 wx => TwoSt s t w v6 v7 wx)
        case first =>
          refine wp_region_held (S := Ext wr) (by kernel_rfl) ?_
          have hg0 := Ext.drawn wr
          refine ah_take (o := ⟨some 20, _, _, _, _, _⟩) 0 rfl (by kernel_rfl) (by kernel_rfl) (by kernel_rfl) (fun _ _ _ h => h) (by kernel_rfl) (fun w' hw' => rl_move (v := .slice (some ⟨b, off, none⟩) l.length cap) (by kernel_rfl)) hg0 ?_
          refine ah_take (o := ⟨some 21, _, _, _, _, _⟩) 1 rfl (by kernel_rfl) (by kernel_rfl) (by kernel_rfl) (fun _ _ _ h => h) (by kernel_rfl) (fun w' hw' => rl_move (v := .int .i64 (k : Int)) (by kernel_rfl)) hg0 ?_
          refine ah_take (o := ⟨some 22, _, _, _, _, _⟩) 2 rfl (by kernel_rfl) (by kernel_rfl) (by kernel_rfl) (fun _ _ _ h => h) (by kernel_rfl) (fun w' hw' => rl_index (b := b) (off := off) (len := l.length) (cap := cap) (k := .i64) (i := k) sl22 (by kernel_rfl) (by kernel_rfl) hlt) hg0 ?_
          refine ah_take (o := ⟨some 23, _, _, _, _, _⟩) 3 rfl (by kernel_rfl) (by kernel_rfl) (by kernel_rfl) (fun _ _ _ h => h) (by kernel_rfl) (fun w' hw' => rl_load_st (b := b) (o := off + k * 3) (s := s) (rangeAt_below hrk hw' lb1) (by kernel_rfl)) hg0 ?_
          refine ah_take (o := ⟨some 24, _, _, _, _, _⟩) 4 rfl (by kernel_rfl) (by kernel_rfl) (by kernel_rfl) (fun _ _ _ h => h) (by kernel_rfl) (fun w' hw' => rl_move (v := .slice (some ⟨b2, off2, none⟩) m.length cap2) (by kernel_rfl)) hg0 ?_
          refine ah_take (o := ⟨some 25, _, _, _, _, _⟩) 5 rfl (by kernel_rfl) (by kernel_rfl) (by kernel_rfl) (fun _ _ _ h => h) (by kernel_rfl) (fun w' hw' => rl_move (v := .int .i64 (k : Int)) (by kernel_rfl)) hg0 ?_
          refine ah_take (o := ⟨some 26, _, _, _, _, _⟩) 6 rfl (by kernel_rfl) (by kernel_rfl) (by kernel_rfl) (fun _ _ _ h => h) (by kernel_rfl) (fun w' hw' => rl_index (b := b2) (off := off2) (len := m.length) (cap := cap2) (k := .i64) (i := k) sl22 (by kernel_rfl) (by kernel_rfl) hlt2) hg0 ?_
          refine ah_take (o := ⟨some 27, _, _, _, _, _⟩) 7 rfl (by kernel_rfl) (by kernel_rfl) (by kernel_rfl) (fun _ _ _ h => h) (by kernel_rfl) (fun w' hw' => rl_load_st (b := b2) (o := off2 + k * 3) (s := t) (rangeAt_below hrk2 hw' lb2) (by kernel_rfl)) hg0 ?_
          generalize ({ wr with drawn := wr.drawn + 1 } : World) = w1 at *
          have g2 := hg0.alloc hg0.size (.cells st0.cells.toArray 59)
          have k2 := Blk.new w1 st0.cells.toArray 59
          have g3 := g2.alloc g2.size (.cells st0.cells.toArray 59)
          have k3 := Blk.new (w1.alloc (.cells st0.cells.toArray 59)) st0.cells.toArray 59
          have k3' := k2.alloc (.cells st0.cells.toArray 59)
          have hlt9 := k2.lt
          have hw1 := hg0.size
          have key : ∀ (g h : Nat) (w3 : World), g ≠ h → wr.heap.size ≤ g → wr.heap.size ≤ h → Ext wr w3 → Blk w3 g st0.cells.toArray 59 → Blk w3 h st0.cells.toArray 59 → Ext wr (w3.setRow g s.cells.toArray) ∧ Blk (w3.setRow g s.cells.toArray) h st0.cells.toArray 59 ∧ Ext wr ((w3.setRow g s.cells.toArray).setRow h t.cells.toArray) ∧ Blk ((w3.setRow g s.cells.toArray).setRow h t.cells.toArray) g s.cells.toArray 59 ∧ Blk ((w3.setRow g s.cells.toArray).setRow h t.cells.toArray) h t.cells.toArray 59 := by
            intro g h w3 hgh hg hh e3 kg kh
            exact ⟨below_setRow e3 hg _, kh.setRow_far (Ne.symm hgh) _, below_setRow (below_setRow e3 hg _) hh _, (kg.setRow _).setRow_far hgh _, (kh.setRow_far (Ne.symm hgh) _).setRow _⟩
          refine ah_two 8 9 (by kernel_rfl) ?_ ?_
          · refine op_value (o := ⟨some 6, _, _, _, _, _⟩) rfl (by kernel_rfl) rl_alloc_st ?_
            refine ⟨g2, ah_one (o := ⟨some 7, _, _, _, _, _⟩) 9 (by kernel_rfl) rfl (by kernel_rfl) rl_alloc_st g3 ?_⟩
            obtain ⟨q1, q2, q3, q4, q5⟩ := key w1.heap.size (w1.alloc (.cells st0.cells.toArray 59)).heap.size _ (by omega) (by omega) (by omega) g3 k3' k3
            refine ah_skip1 (o := ⟨none, _, _, _, _, _⟩) 10 (by kernel_rfl) rfl (by kernel_rfl) (rl_store_row (cs := s.cells.toArray) (by kernel_rfl) (by kernel_rfl) k3' (by rw [size29]; rfl) rfl (by simp [St.cells, Value.oneCell'])) q1 ?_
            refine ah_skip1 (o := ⟨none, _, _, _, _, _⟩) 11 (by kernel_rfl) rfl (by kernel_rfl) (rl_store_row (cs := t.cells.toArray) (by kernel_rfl) (by kernel_rfl) q2 (by rw [size29]; rfl) rfl (by simp [St.cells, Value.oneCell'])) q3 ?_
            refine wpAnyH_done (by kernel_rfl) ?_ _
            simp only [Act.put, List.setIfInBounds_toArray, List.set_cons_succ, List.set_cons_zero]
            go_wp2_with fail
            go_meet
            case rel => exact ⟨_, _, rfl, rfl, q4, q5, hbel.trans (q3.mono (by omega))⟩
          · refine op_value (o := ⟨some 7, _, _, _, _, _⟩) rfl (by kernel_rfl) rl_alloc_st ?_
            refine ⟨g2, ah_one (o := ⟨some 6, _, _, _, _, _⟩) 8 (by kernel_rfl) rfl (by kernel_rfl) rl_alloc_st g3 ?_⟩
            obtain ⟨q1, q2, q3, q4, q5⟩ := key (w1.alloc (.cells st0.cells.toArray 59)).heap.size w1.heap.size _ (by omega) (by omega) (by omega) g3 k3 k3'
            refine ah_skip1 (o := ⟨none, _, _, _, _, _⟩) 10 (by kernel_rfl) rfl (by kernel_rfl) (rl_store_row (cs := s.cells.toArray) (by kernel_rfl) (by kernel_rfl) k3 (by rw [size29]; rfl) rfl (by simp [St.cells, Value.oneCell'])) q1 ?_
            refine ah_skip1 (o := ⟨none, _, _, _, _, _⟩) 11 (by kernel_rfl) rfl (by kernel_rfl) (rl_store_row (cs := t.cells.toArray) (by kernel_rfl) (by kernel_rfl) q2 (by rw [size29]; rfl) rfl (by simp [St.cells, Value.oneCell'])) q3 ?_
            refine wpAnyH_done (by kernel_rfl) ?_ _
            simp only [Act.put, List.setIfInBounds_toArray, List.set_cons_succ, List.set_cons_zero]
            go_wp2_with fail
            go_meet
            case rel => exact ⟨_, _, rfl, rfl, q4, q5, hbel.trans (q3.mono (by omega))⟩
        case rest =>
          obtain ⟨g1, g2, rfl, rfl, k1, k2, hbel3⟩ := hcut
          have hR := HR.out
          have r6 := World.rangeAt_of_block k1 0 3
          have r7 := World.rangeAt_of_block k2 0 3
          replace r6 : World.rangeAt _ g1 0 s.cells := r6
          replace r7 : World.rangeAt _ g2 0 t.cells := r7
          clear HR hbel
          by_cases he : cmpSt s t = 0
          · have hq : eqSt s t = true := by rw [eqSt_k]; rw [cmpSt_k, cmpK_is.zero] at he; simpa using he
            rw [if_pos he] at hR
            have HR := Lib.hid hR
            clear hR
            go_wp2_with (first | ((with_reducible refine pl_load_st (b := g1) (o := 0) r6 ?_ ?_ ?_); (· rfl); (· rfl)) | ((with_reducible refine pl_load_st (b := g2) (o := 0) r7 ?_ ?_ ?_); (· rfl); (· rfl)) | ((with_reducible refine pl_eql_st s t hq ?_ ?_ ?_ ?_); (· rfl); (· rfl); (· rfl)))
            go_roundw
            case rel => exact ⟨k + 1, by omega, by omega, by go_num, hbel3, HR⟩
            case measure => simp [intOf]; omega
          · have hq : eqSt s t = false := by rw [eqSt_k]; rw [cmpSt_k, cmpK_is.zero] at he; simpa using he
            rw [if_neg he] at hR
            have c10 := (k1.cell 0).trans (by rfl : s.cells.toArray[0]? = some (Value.int .u8 s.kind))
            have c11 := (k1.cell 1).trans (by rfl : s.cells.toArray[1]? = some (Value.string s.key))
            have c12 := (k1.cell 2).trans (by rfl : s.cells.toArray[2]? = some (Value.int .i64 s.num))
            have c20 := (k2.cell 0).trans (by rfl : t.cells.toArray[0]? = some (Value.int .u8 t.kind))
            have c21 := (k2.cell 1).trans (by rfl : t.cells.toArray[1]? = some (Value.string t.key))
            have c22 := (k2.cell 2).trans (by rfl : t.cells.toArray[2]? = some (Value.int .i64 t.num))
            rcases cmpSt_cases s t he with ⟨e, h1⟩ | ⟨e, h1, h2⟩ | ⟨e, h1, h2, h3⟩ | ⟨e, h1, h2, h3, h4⟩ | ⟨e, h1, h2, h3, h4, h5⟩ | ⟨e, h1, h2, h3, h4, h5⟩
            all_goals
              rw [e] at hR
              subst hR
              clear e he
              go_wp2_with (first | ((with_reducible refine pl_load_st (b := g1) (o := 0) r6 ?_ ?_ ?_); (· rfl); (· rfl)) | ((with_reducible refine pl_load_st (b := g2) (o := 0) r7 ?_ ?_ ?_); (· rfl); (· rfl)) | ((with_reducible refine pl_eql_st s t hq ?_ ?_ ?_ ?_); (· rfl); (· rfl); (· rfl)))
              go_ret
              exact ⟨rfl, hbel3⟩
      · obtain rfl : k = m.length := by omega
        have hR := hr.out
        rw [List.drop_length, List.drop_eq_getElem_cons hlt, cmpW] at hR
        subst hR
        have q2 : ¬ (m.length : Int) < (m.length : Int) := by omega
        have q3 : ¬ (l.length : Int) < (m.length : Int) := by omega
        have q4 : (m.length : Int) < (l.length : Int) := by omega
        clear hr
        go_wp2_with fail
        go_ret
        exact ⟨rfl, hbel⟩
    · obtain rfl : k = l.length := by omega
      have hR := hr.out
      rw [List.drop_length] at hR
      clear hr
      by_cases hlt2 : l.length < m.length
      · rw [List.drop_eq_getElem_cons hlt2, cmpW] at hR
        subst hR
        have q2 : (l.length : Int) < (m.length : Int) := by omega
        go_wp2_with fail
        go_ret
        exact ⟨rfl, hbel⟩
      · rw [List.drop_eq_nil_of_le (by omega), cmpW] at hR
        subst hR
        have q2 : ¬ (l.length : Int) < (m.length : Int) := by omega
        have q3 : ¬ (m.length : Int) < (l.length : Int) := by omega
        go_wp2_with fail
        go_ret
        exact ⟨rfl, hbel⟩
end Go.Proofs.YtoddjofckbfkhaaDoor.Wy
