/- The walk of slices.Equal over steps. -/
import Derived.Test.YtoddjofckbfkhaaDoorStEq
import Derived.Test.YtoddjofckbfkhaaDoorHs
namespace Go.Proofs.YtoddjofckbfkhaaDoor.Wy
open Go.RowKit Mem Ops
attribute [local irreducible] wpQuiet wpAnyH
theorem sl22 : SlTy Tryd.prog 22 59 3 := ⟨Tryd.underlying22, by kernel_rfl⟩
def eqL : List St → List St → Bool
  | [], [] => true
  | s :: l, t :: m => if eqSt s t then eqL l m else false
  | _, _ => false
theorem eqL_len : ∀ l m : List St, l.length ≠ m.length → eqL l m = false
  | [], [], h => absurd rfl h
  | [], _ :: _, _ => rfl
  | _ :: _, [], _ => rfl
  | s :: l, t :: m, h => by rw [eqL, eqL_len l m (by simpa using h)]; split <;> rfl
theorem eqL_drop (l m : List St) (k : Nat) (hk : k < l.length) (hm : k < m.length) : eqL (l.drop k) (m.drop k) = if eqSt (l.getD k st0) (m.getD k st0) then eqL (l.drop (k + 1)) (m.drop (k + 1)) else false := by
  rw [List.drop_eq_getElem_cons hk, List.drop_eq_getElem_cons hm, eqL]; simp [hk, hm]
set_option maxRecDepth 100000 in
set_option maxHeartbeats 2000000 in
theorem equal_calls (a a2 : Option Addr) (l m : List St) (n n2 cap cap2 : Nat) (w : World) (hn : n = l.length) (hn2 : n2 = m.length) (hl : l.length ≤ 140737488351232) (hm : m.length ≤ 140737488351232) (hH : Sts w a l) (hH2 : Sts w a2 m) :
    Calls Tryd.prog 29 #[.slice a n cap, .slice a2 n2 cap2] w fun e w' => e = .returned (.bool (eqL l m)) ∧ Below w.heap.size w w' := by
  subst hn
  subst hn2
  by_cases hlen : l.length = m.length
  · generalize hR : eqL l m = R
    have HR : Hid (eqL (l.drop 0) (m.drop 0) = R) := Lib.hid hR
    have HL := Lib.hid hlen
    rw [hlen]
    clear hR hlen
    go_enter Tryd.func29, Tryd.ntmps29
    go_wp2_with fail
    go_loopw [13] (fun i wr => ∃ k : Nat, k ≤ m.length ∧ i = .int .i64 k ∧ Below w.heap.size w wr ∧ Hid (eqL (l.drop k) (m.drop k) = R)) (fun i _ => m.length - (intOf i).toNat)
    case atStart => exact ⟨0, Nat.zero_le _, rfl, Below.refl _ _, HR⟩
    case round =>
      clear HR
      obtain ⟨k, hk, rfl, hbel, hr⟩ := hrel
      by_cases hlt : k < m.length
      · have hll : k < l.length := by rw [HL.out]; exact hlt
        obtain ⟨b, off, rfl, hb, hc⟩ := hH.addr (by omega)
        obtain ⟨b2, off2, rfl, hb2, hc2⟩ := hH2.addr (by omega)
        have hrk := rangeAt_below (hc k hll) hbel hb
        have hrk2 := rangeAt_below (hc2 k hlt) hbel hb2
        have hR := hr.out
        rw [eqL_drop l m k hll hlt] at hR
        clear hr hll
        generalize l.getD k st0 = s at *
        generalize m.getD k st0 = t at *
        have hws := hbel.size
        have lb1 := Nat.lt_of_lt_of_le hb hws
        have lb2 := Nat.lt_of_lt_of_le hb2 hws
        cases he : eqSt s t with
        | true =>
          have hne : (!(eqSt s t)) = false := by rw [he]; rfl
          rw [he, if_pos rfl] at hR
          have HR := Lib.hid hR
          clear hR he
          go_wp2_with fail
          refine region_grown (by kernel_rfl) (by kernel_rfl) ?_
          refine qs_move (v := (.slice (some ⟨b, off, none⟩) m.length cap)) (by kernel_rfl) (by kernel_rfl) ?_
          refine qs_move (v := (.int .i64 (k : Int))) (by kernel_rfl) (by kernel_rfl) ?_
          refine qs_index sl22 (b := b) (off := off) (len := m.length) (cap := cap) (k := .i64) k (by kernel_rfl) (by kernel_rfl) (by kernel_rfl) hlt ?_
          refine qs_load_st (b := b) (o := off + k * 3) (s := s) hrk lb1 (by kernel_rfl) (by kernel_rfl) ?_
          refine qs_move (v := (.slice (some ⟨b2, off2, none⟩) m.length cap2)) (by kernel_rfl) (by kernel_rfl) ?_
          refine qs_move (v := (.int .i64 (k : Int))) (by kernel_rfl) (by kernel_rfl) ?_
          refine qs_index sl22 (b := b2) (off := off2) (len := m.length) (cap := cap2) (k := .i64) k (by kernel_rfl) (by kernel_rfl) (by kernel_rfl) hlt ?_
          refine qs_load_st (b := b2) (o := off2 + k * 3) (s := t) hrk2 lb2 (by kernel_rfl) (by kernel_rfl) ?_
          refine qs_neq_st s t (r := false) hne (by kernel_rfl) (by kernel_rfl) (by kernel_rfl) ?_
          refine wpQuiet_nil ?_
          intro wq hwq
          simp only [Act.put, Exit.then, List.setIfInBounds_toArray, List.set_cons_succ, List.set_cons_zero]
          go_wp2_with fail
          go_roundw
          case rel => exact ⟨k + 1, by omega, by go_num, hbel.trans (hwq.mono hws), HR⟩
          case measure => simp [intOf]; omega
        | false =>
          have hne : (!(eqSt s t)) = true := by rw [he]; rfl
          rw [he, if_neg (by simp)] at hR
          subst hR
          clear he
          go_wp2_with fail
          refine region_grown (by kernel_rfl) (by kernel_rfl) ?_
          refine qs_move (v := (.slice (some ⟨b, off, none⟩) m.length cap)) (by kernel_rfl) (by kernel_rfl) ?_
          refine qs_move (v := (.int .i64 (k : Int))) (by kernel_rfl) (by kernel_rfl) ?_
          refine qs_index sl22 (b := b) (off := off) (len := m.length) (cap := cap) (k := .i64) k (by kernel_rfl) (by kernel_rfl) (by kernel_rfl) hlt ?_
          refine qs_load_st (b := b) (o := off + k * 3) (s := s) hrk lb1 (by kernel_rfl) (by kernel_rfl) ?_
          refine qs_move (v := (.slice (some ⟨b2, off2, none⟩) m.length cap2)) (by kernel_rfl) (by kernel_rfl) ?_
          refine qs_move (v := (.int .i64 (k : Int))) (by kernel_rfl) (by kernel_rfl) ?_
          refine qs_index sl22 (b := b2) (off := off2) (len := m.length) (cap := cap2) (k := .i64) k (by kernel_rfl) (by kernel_rfl) (by kernel_rfl) hlt ?_
          refine qs_load_st (b := b2) (o := off2 + k * 3) (s := t) hrk2 lb2 (by kernel_rfl) (by kernel_rfl) ?_
          refine qs_neq_st s t (r := true) hne (by kernel_rfl) (by kernel_rfl) (by kernel_rfl) ?_
          refine wpQuiet_nil ?_
          intro wq hwq
          simp only [Act.put, Exit.then, List.setIfInBounds_toArray, List.set_cons_succ, List.set_cons_zero]
          go_wp2_with fail
          go_ret
          exact ⟨rfl, hbel.trans (hwq.mono hws)⟩
      · obtain rfl : k = m.length := by omega
        have hR := hr.out
        rw [List.drop_length, List.drop_eq_nil_of_le (by rw [HL.out]; exact Nat.le_refl _), eqL] at hR
        subst hR
        clear hr
        go_wp2_with fail
        go_ret
        exact ⟨rfl, hbel⟩
  · rw [eqL_len l m hlen]
    have q : ¬ (l.length : Int) = (m.length : Int) := by omega
    go_enter Tryd.func29, Tryd.ntmps29
    go_wp2_with fail
    go_ret
    exact ⟨rfl, Below.refl _ _⟩
end Go.Proofs.YtoddjofckbfkhaaDoor.Wy
