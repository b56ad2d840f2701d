/- The walk of slices.CompareFunc over steps, and of way.Compare. -/
import Derived.Test.YtoddjofckbfkhaaStOps
import Derived.Deep.Cut
namespace Go.Proofs.Ytoddjofckbfkhaa.Wy
open Go.RowKit Mem Ops
set_option maxRecDepth 100000 in
set_option maxHeartbeats 2000000 in
theorem cmpF_calls (a a2 : Option Addr) (l m : List St) (n n2 cap cap2 : Nat) (w : World) (hn : n = l.length) (hn2 : n2 = m.length) (hl : l.length ≤ 140737488351232) (hm : m.length ≤ 140737488351232) (hH : Sts w a l) (hH2 : Sts w a2 m) :
    Calls Try.prog 14 #[.slice a n cap, .slice a2 n2 cap2, .func (.func 15) #[] #[]] w fun e w' => e = .returned (.int .i64 (cmpW l m)) ∧ Below w.heap.size w w' := by
  subst hn
  subst hn2
  generalize hR : cmpW l m = R
  have HR : Hid (cmpW (l.drop 0) (m.drop 0) = R) := Lib.hid hR
  clear hR
  go_enter Try.func14, Try.ntmps14
  go_wp2_with fail
  go_loopw [13] (fun i wr => ∃ k : Nat, k ≤ l.length ∧ k ≤ m.length ∧ i = .int .i64 k ∧ Below w.heap.size w wr ∧ Hid (cmpW (l.drop k) (m.drop k) = R)) (fun i _ => l.length - (intOf i).toNat)
  case atStart => exact ⟨0, Nat.zero_le _, Nat.zero_le _, rfl, Below.refl _ _, HR⟩
  case round =>
    clear HR
    obtain ⟨k, hk, hk2, rfl, hbel, hr⟩ := hrel
    by_cases hlt : k < l.length
    · obtain ⟨b, off, rfl, hb, hc⟩ := hH.addr (by omega)
      have hrk := rangeAt_below (hc k hlt) hbel hb
      have hR := hr.out
      have q0 : (0 : Int) ≤ (k : Int) := by omega
      have q1 : (k : Int) < (l.length : Int) := by omega
      by_cases hlt2 : k < m.length
      · obtain ⟨b2, off2, rfl, hb2, hc2⟩ := hH2.addr (by omega)
        have hrk2 := hc2 k hlt2
        rw [cmpW_drop l m k hlt hlt2] at hR
        have HR := Lib.hid hR
        clear hr hR
        generalize l.getD k st0 = s at *
        generalize m.getD k st0 = t at *
        have q2 : (k : Int) < (m.length : Int) := by omega
        have q3 : ¬ (k : Int) ≥ (m.length : Int) := by omega
        have K8 := (Blk.new wr st0.cells.toArray 29).setRow s.cells.toArray
        have hz := below_setRow (hbel.alloc hbel.size (.cells st0.cells.toArray 29)) (b := wr.heap.size) hbel.size s.cells.toArray
        go_upto_region 6 with (first | ((with_reducible refine pl_load_st (b := b) (o := off + k * 3) hrk ?_ ?_ ?_); (· rfl); (· rfl)) | ((with_reducible refine pl_alloc_st ?_ ?_); (· rfl)) | ((with_reducible refine pl_store_st (o := st0) (s := s) (Blk.new _ _ _) ?_ ?_ ?_ ?_); (· rfl); (· rfl); (· rfl)))
        generalize hW1 : ((wr.alloc (.cells st0.cells.toArray 29)).setRow wr.heap.size s.cells.toArray) = W1 at *
        clear hW1 hbel hrk
        generalize wr.heap.size = b8 at *
        replace hrk2 := rangeAt_below hrk2 hz hb2
        have n8 : b8 ≠ W1.heap.size := by have := K8.lt; omega
        have K9 := (Blk.new W1 st0.cells.toArray 29).setRow t.cells.toArray
        have K8' := (K8.alloc (.cells st0.cells.toArray 29)).setRow_far n8 t.cells.toArray
        have hz2 := below_setRow (hz.alloc hz.size (.cells st0.cells.toArray 29)) (b := W1.heap.size) hz.size t.cells.toArray
        have r8 := World.rangeAt_of_block K8' 0 3
        have r9 := World.rangeAt_of_block K9 0 3
        replace r8 : World.rangeAt _ b8 0 s.cells := r8
        replace r9 : World.rangeAt _ W1.heap.size 0 t.cells := r9
        go_wp2_with (first | ((with_reducible refine pl_load_st (b := b2) (o := off2 + k * 3) hrk2 ?_ ?_ ?_); (· rfl); (· rfl)) | ((with_reducible refine pl_alloc_st ?_ ?_); (· rfl)) | ((with_reducible refine pl_store_st (o := st0) (s := t) (Blk.new _ _ _) ?_ ?_ ?_ ?_); (· rfl); (· rfl); (· rfl)) | ((with_reducible refine pl_load_st (b := b8) (o := 0) r8 ?_ ?_ ?_); (· rfl); (· rfl)) | ((with_reducible refine pl_load_st (b := W1.heap.size) (o := 0) r9 ?_ ?_ ?_); (· rfl); (· rfl)))
        refine (step_calls s t _).mono ?_
        rintro e w3 ⟨rfl, hb3⟩
        have hz3 := hz2.trans (hb3.mono hz2.size)
        have hR := HR.out
        clear K8 hrk2 K9 K8' hz2 r8 r9 hz hb3 HR
        by_cases he : cmpSt s t = 0
        · rw [if_pos he] at hR
          have HR := Lib.hid hR
          clear hR
          rw [he]
          go_wp2_with fail
          go_roundw
          case rel => exact ⟨k + 1, by omega, by omega, by go_num, hz3, HR⟩
          case measure => simp [intOf]; omega
        · rw [if_neg he] at hR
          subst hR
          have he2 : (cmpSt s t != 0) = true := by simpa using he
          go_wp2_with fail
          go_ret
          exact ⟨rfl, hz3⟩
      · obtain rfl : k = m.length := by omega
        rw [List.drop_length, List.drop_eq_getElem_cons hlt, cmpW] at hR
        have q4 : (m.length : Int) ≥ (m.length : Int) := Int.le_refl _
        generalize l.getD m.length st0 = u at *
        subst hR
        clear hr
        go_wp2_with (first | ((with_reducible refine pl_load_st (b := b) (o := off + m.length * 3) hrk ?_ ?_ ?_); (· rfl); (· rfl)) | ((with_reducible refine pl_alloc_st ?_ ?_); (· rfl)) | ((with_reducible refine pl_store_st (o := st0) (s := u) (Blk.new _ _ _) ?_ ?_ ?_ ?_); (· rfl); (· rfl); (· rfl)))
        go_ret
        exact ⟨rfl, below_setRow (hbel.alloc hbel.size _) hbel.size _⟩
    · obtain rfl : k = l.length := by omega
      have hR := hr.out
      rw [List.drop_length] at hR
      clear hr
      by_cases hlt2 : l.length < m.length
      · rw [List.drop_eq_getElem_cons hlt2, cmpW] at hR
        subst hR
        have q2 : (l.length : Int) < (m.length : Int) := by omega
        go_wp2_with fail
        go_ret
        exact ⟨rfl, hbel⟩
      · rw [List.drop_eq_nil_of_le (by omega), cmpW] at hR
        subst hR
        have q2 : ¬ (l.length : Int) < (m.length : Int) := by omega
        go_wp2_with fail
        go_ret
        exact ⟨rfl, hbel⟩
end Go.Proofs.Ytoddjofckbfkhaa.Wy
