/- The walks of digest.Compare and estuaryref01.Compare. -/
import Derived.Test.YtdanbjpfojgmiaaShW
namespace Go.Proofs.Ytdanbjpfojgmiaa.Dg
open Go.RowKit Mem Ops

theorem blk2_new (w : World) (o : Obj) (cs : Array Value) (T : TypeId) : Blk ((w.alloc o).alloc (.cells cs T)) (w.heap.size + 1) cs T := heap_alloc2_new w o _

theorem belowN {B : Nat} {a w : World} (h : Below B a w) (n : Nat) : Below B a (w.drewN n) := ⟨h.os, h.tape, h.output, h.size, h.block⟩

def IntR (n : Int) (w : World) (e : Ending) (w' : World) : Prop := e = .returned (.int .i64 n) ∧ Below w.heap.size w w'

theorem cmpR_self : ∀ a : List UInt8, cmpR a a = 0
  | [] => rfl
  | c :: a => by simp only [cmpR, UInt8.lt_irrefl, if_false]; exact cmpR_self a
theorem cmpR_cons (a b : List UInt8) (k : Nat) (ha : k < a.length) (hb : k < b.length) : cmpR (a.drop k) (b.drop k) =
    if ((a.getD k 0).toNat : Int) < ((b.getD k 0).toNat : Int) then -1 else if ((b.getD k 0).toNat : Int) < ((a.getD k 0).toNat : Int) then 1 else cmpR (a.drop (k + 1)) (b.drop (k + 1)) := by
  rw [List.drop_eq_getElem_cons ha, List.drop_eq_getElem_cons hb]
  simp only [cmpR, UInt8.lt_iff_toNat_lt, Int.ofNat_lt]
  simp [ha, hb]
theorem drop_cons (a : List UInt8) (k : Nat) (ha : k < a.length) : a.drop k = a.getD k 0 :: a.drop (k + 1) := by
  rw [List.drop_eq_getElem_cons ha]; simp [ha]

set_option maxHeartbeats 1000000 in
theorem compare_calls (a b : List UInt8) (w : World) (ha : a.length = 32) (hb : b.length = 32) :
    Calls Try.prog 15 #[.agg (bytesU a).toArray, .agg (bytesU b).toArray] w (IntR (cmpR a b) w) := by
  have hA : (bytesU a).toArray.size = 32 := by simp [ha]
  have hB : (bytesU b).toArray.size = 32 := by simp [hb]
  generalize hR : cmpR a b = R
  have HR := Lib.hid hR
  clear hR
  by_cases hab : a = b
  · have hq : (a == b) = true := by simp [hab]
    have hR := HR.out
    rw [hab, cmpR_self] at hR
    have HR := Lib.hid hR
    clear hR hab
    go_enter Try.func15, Try.ntmps15
    go_wp2_with (first
      | ((with_reducible refine step_load_arr (b := w.heap.size) (cs := (bytesU a).toArray) arr27 (Blk.alloc (Blk.new _ _ _) _) ?_ ?_ ?_); (· rfl); (· exact hA))
      | ((with_reducible refine step_load_arr (b := w.heap.size + 1) (cs := (bytesU b).toArray) arr27 (blk2_new _ _ _ _) ?_ ?_ ?_); (· rfl); (· exact hB))
      | ((with_reducible refine step_eql_is arr27 a b hq ha hb ?_ ?_ ?_); (· rfl); (· rfl)))
    go_ret
    exact ⟨by rw [← HR.out]; rfl, ((Below.refl _ _).alloc (Nat.le_refl _) _).alloc (by simp) _⟩
  · have hq : (a == b) = false := by simp [hab]
    have Hab := Lib.hid hab
    clear hab
    go_enter Try.func15, Try.ntmps15
    go_wp2_with (first
      | ((with_reducible refine step_load_arr (b := w.heap.size) (cs := (bytesU a).toArray) arr27 (Blk.alloc (Blk.new _ _ _) _) ?_ ?_ ?_); (· rfl); (· exact hA))
      | ((with_reducible refine step_load_arr (b := w.heap.size + 1) (cs := (bytesU b).toArray) arr27 (blk2_new _ _ _ _) ?_ ?_ ?_); (· rfl); (· exact hB))
      | ((with_reducible refine step_eql_is arr27 a b hq ha hb ?_ ?_ ?_); (· rfl); (· rfl)))
    go_loopw [9] (fun i wr => ∃ k : Nat, k ≤ 32 ∧ i = .int .i64 k ∧ Blk wr w.heap.size (bytesU a).toArray 27 ∧ Blk wr (w.heap.size + 1) (bytesU b).toArray 27 ∧ Below w.heap.size w wr ∧ Hid (cmpR (a.drop k) (b.drop k) = R) ∧ Hid (¬ a.drop k = b.drop k)) (fun i _ => 32 - (intOf i).toNat)
    case atStart => exact ⟨0, Nat.zero_le _, rfl, heap_alloc2_old _ _ _, heap_alloc2_new _ _ _, ((Below.refl _ _).alloc (Nat.le_refl _) _).alloc (by simp) _, HR, Hab⟩
    case round =>
      clear HR Hab
      obtain ⟨k, hk, rfl, hb0, hb1, hbel, hr, hne⟩ := hrel
      by_cases hlt : k < 32
      · have c0 : wr.cell? ⟨w.heap.size, k, none⟩ = some (.int .u8 ((a.getD k 0).toNat : Int)) := by rw [hb0.cell, List.getElem?_toArray]; exact bytesU_get _ _ (by omega)
        have c1 : wr.cell? ⟨w.heap.size + 1, k, none⟩ = some (.int .u8 ((b.getD k 0).toNat : Int)) := by rw [hb1.cell, List.getElem?_toArray]; exact bytesU_get _ _ (by omega)
        have hR := hr.out
        rw [cmpR_cons a b k (by omega) (by omega)] at hR
        have hn := hne.out
        rw [drop_cons a k (by omega), drop_cons b k (by omega)] at hn
        clear hr hne
        generalize a.getD k 0 = x at *
        generalize b.getD k 0 = y at *
        have Hn := Lib.hid hn
        clear hn
        have q0 : (0 : Int) ≤ (k : Int) := by omega
        have q1 : (k : Int) < 32 := by omega
        by_cases hxy : x = y
        · have hq : ((x.toNat : Int) != (y.toNat : Int)) = false := by rw [hxy]; simp
          rw [if_neg (by rw [hxy]; omega), if_neg (by rw [hxy]; omega)] at hR
          have HR := Lib.hid hR
          have HXY := Lib.hid hxy
          clear hR hxy
          go_wp2_with fail
          go_quiet (fail)
          go_wp2
          go_roundw
          case rel => exact ⟨k + 1, by omega, by go_num, hb0.drewN _, hb1.drewN _, belowN hbel _, HR.out, fun h => Hn.out (by rw [HXY.out, h])⟩
          case measure => simp [intOf]; omega
        · have hq : ((x.toNat : Int) != (y.toNat : Int)) = true := by rw [bne_iff_ne]; intro h; exact hxy (UInt8.toNat_inj.1 (by omega))
          have hne2 : ¬ (x.toNat = y.toNat) := fun h => hxy (UInt8.toNat_inj.1 h)
          by_cases hl : (x.toNat : Int) < (y.toNat : Int)
          · rw [if_pos hl] at hR
            have HR := Lib.hid hR
            clear hR hxy
            go_wp2_with fail
            go_quiet (fail)
            go_wp2_with fail
            go_quiet (fail)
            go_wp2
            go_ret
            exact ⟨by rw [← HR.out]; rfl, by repeat (first | assumption | apply belowN | apply Below.drew)⟩
          · rw [if_neg hl, if_pos (by omega)] at hR
            have HR := Lib.hid hR
            clear hR hxy
            go_wp2_with fail
            go_quiet (fail)
            go_wp2_with fail
            go_quiet (fail)
            go_wp2
            go_ret
            exact ⟨by rw [← HR.out]; rfl, by repeat (first | assumption | apply belowN | apply Below.drew)⟩
      · obtain rfl : k = 32 := by omega
        exact absurd (by rw [List.drop_of_length_le (by omega), List.drop_of_length_le (by omega)]) hne.out

set_option maxHeartbeats 1000000 in
theorem compareRef_calls (a b : List UInt8) (w : World) (ha : a.length = 32) (hb : b.length = 32) :
    Calls Try.prog 16 #[.agg (bytesU a).toArray, .agg (bytesU b).toArray] w (IntR (cmpR a b) w) := by
  generalize hR : cmpR a b = R
  have HR := Lib.hid hR
  clear hR
  go_enter Try.func16, Try.ntmps16
  go_wp2
  go_loopw [5] (fun i wr => ∃ k : Nat, k ≤ 32 ∧ i = .int .i64 k ∧ Blk wr w.heap.size (bytesU a).toArray 27 ∧ Blk wr (w.heap.size + 1) (bytesU b).toArray 27 ∧ Below w.heap.size w wr ∧ Hid (cmpR (a.drop k) (b.drop k) = R)) (fun i _ => 32 - (intOf i).toNat)
  case atStart => exact ⟨0, Nat.zero_le _, rfl, heap_alloc2_old _ _ _, heap_alloc2_new _ _ _, ((Below.refl _ _).alloc (Nat.le_refl _) _).alloc (by simp) _, HR⟩
  case round =>
    clear HR
    obtain ⟨k, hk, rfl, hb0, hb1, hbel, hr⟩ := hrel
    by_cases hlt : k < 32
    · have c0 : wr.cell? ⟨w.heap.size, k, none⟩ = some (.int .u8 ((a.getD k 0).toNat : Int)) := by rw [hb0.cell, List.getElem?_toArray]; exact bytesU_get _ _ (by omega)
      have c1 : wr.cell? ⟨w.heap.size + 1, k, none⟩ = some (.int .u8 ((b.getD k 0).toNat : Int)) := by rw [hb1.cell, List.getElem?_toArray]; exact bytesU_get _ _ (by omega)
      have hR := hr.out
      rw [cmpR_cons a b k (by omega) (by omega)] at hR
      clear hr
      generalize a.getD k 0 = x at *
      generalize b.getD k 0 = y at *
      have q0 : (0 : Int) ≤ (k : Int) := by omega
      have q1 : (k : Int) < 32 := by omega
      by_cases hl : (x.toNat : Int) < (y.toNat : Int)
      · rw [if_pos hl] at hR
        have HR := Lib.hid hR
        clear hR
        go_wp2_with fail
        go_quiet (fail)
        go_wp2
        go_ret
        exact ⟨by rw [← HR.out]; rfl, by repeat (first | assumption | apply belowN | apply Below.drew)⟩
      · by_cases hg : (y.toNat : Int) < (x.toNat : Int)
        · rw [if_neg hl, if_pos hg] at hR
          have HR := Lib.hid hR
          clear hR
          go_wp2_with fail
          go_quiet (fail)
          go_wp2_with fail
          go_quiet (fail)
          go_wp2
          go_ret
          exact ⟨by rw [← HR.out]; rfl, by repeat (first | assumption | apply belowN | apply Below.drew)⟩
        · rw [if_neg hl, if_neg hg] at hR
          have HR := Lib.hid hR
          clear hR
          go_wp2_with fail
          go_quiet (fail)
          go_wp2_with fail
          go_quiet (fail)
          go_wp2
          go_roundw
          case rel => exact ⟨k + 1, by omega, by go_num, hb0.drewN _, hb1.drewN _, by repeat (first | assumption | apply belowN | apply Below.drew), HR.out⟩
          case measure => simp [intOf]; omega
    · obtain rfl : k = 32 := by omega
      have hR := hr.out
      rw [List.drop_of_length_le (by omega), List.drop_of_length_le (by omega)] at hR
      have HR := Lib.hid hR
      clear hR hr
      go_wp2
      go_ret
      exact ⟨by rw [← HR.out]; rfl, hbel⟩
end Go.Proofs.Ytdanbjpfojgmiaa.Dg
