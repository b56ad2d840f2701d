/- The walks of way.Right and of the document's Right. -/
import Derived.Test.YtoddjofckbfkhaaDoorFineW
namespace Go.Proofs.YtoddjofckbfkhaaDoor.Wy
open Go.RowKit Mem Ops Ut
/-- What is wrong with a way. -/
def rightW (l : List St) : Int := if 32 < l.length then 6 else if l.all fineR then 0 else 41
def KeysOk (l : List St) : Prop := ∀ s ∈ l, s.key.size ≤ 9223372036854775807
theorem KeysOk.at {l : List St} (h : KeysOk l) {k : Nat} (hk : k < l.length) : (l.getD k st0).key.size ≤ 9223372036854775807 := by
  rw [List.getD_eq_getElem?_getD, List.getElem?_eq_getElem hk]; exact h _ (List.getElem_mem _)
theorem all_drop (l : List St) (k : Nat) (hk : k < l.length) : (l.drop k).all fineR = (fineR (l.getD k st0) && (l.drop (k + 1)).all fineR) := by
  rw [List.drop_eq_getElem_cons hk, List.all_cons, List.getD_eq_getElem?_getD, List.getElem?_eq_getElem hk]
  rfl
theorem st_laid (w : World) (s : St) : World.rangeAt ((w.alloc (.cells st0.cells.toArray 59)).setRow w.heap.size s.cells.toArray) w.heap.size 0 s.cells :=
  World.rangeAt_of_block ((Blk.new w st0.cells.toArray 59).setRow s.cells.toArray) 0 3
theorem st_below {B : Nat} {w0 w : World} (h : Below B w0 w) (hB : B ≤ w.heap.size) (s : St) : Below B w0 ((w.alloc (.cells st0.cells.toArray 59)).setRow w.heap.size s.cells.toArray) :=
  below_setRow (h.alloc hB _) hB _
set_option maxRecDepth 100000 in
set_option maxHeartbeats 1000000 in
theorem right_calls (a : Option Addr) (l : List St) (n cap : Nat) (w : World) (hn : n = l.length) (hl : l.length ≤ 140737488351232) (hK : KeysOk l) (hT : Tabs w) (hH : Sts w a l) :
    Calls Tryd.prog 17 #[.slice a n cap] w fun e w' => e = .returned (.int .i64 (rightW l)) ∧ Below w.heap.size w w' := by
  subst hn
  unfold rightW
  by_cases h32 : 32 < l.length
  · rw [if_pos h32]
    have q : (32 : Int) < (l.length : Int) := by omega
    go_enter Tryd.func17, Tryd.ntmps17
    go_wp2_with fail
    go_ret
    exact ⟨rfl, Below.refl _ _⟩
  · rw [if_neg h32]
    have q : ¬ (32 : Int) < (l.length : Int) := by omega
    obtain ⟨R, hR⟩ : ∃ R : Int, (if l.all fineR then (0 : Int) else 41) = R := ⟨_, rfl⟩
    rw [hR]
    have HR : Hid ((if (l.drop 0).all fineR then (0 : Int) else 41) = R) := Lib.hid hR
    clear hR h32
    go_enter Tryd.func17, Tryd.ntmps17
    go_wp2_with fail
    go_loopw [10] (fun i wr => ∃ k : Nat, k ≤ l.length ∧ i = .int .i64 k ∧ Below w.heap.size w wr ∧ Hid ((if (l.drop k).all fineR then (0 : Int) else 41) = R)) (fun i _ => l.length - (intOf i).toNat)
    case atStart => exact ⟨0, Nat.zero_le _, rfl, Below.refl _ _, HR⟩
    case round =>
      clear HR
      obtain ⟨k, hk, rfl, hbel, hr⟩ := hrel
      by_cases hlt : k < l.length
      · obtain ⟨b, off, rfl, hb, hc⟩ := hH.addr (by omega)
        have hrk := rangeAt_below (hc k hlt) hbel hb
        have hks := hK.at hlt
        have hR := hr.out
        rw [all_drop l k hlt] at hR
        generalize l.getD k st0 = s at *
        have hws := hbel.size
        have hb3 := st_below hbel hws s
        have K0 := Blk.new wr st0.cells.toArray 59
        have r3 := st_laid wr s
        have hf := Lib.hid (fine_calls s _ hks (hT.below hb3))
        have p0 : (k : Int) < (l.length : Int) := by omega
        have p1 : (k : Int) ≤ 140737488351232 := by omega
        clear hr hc hks
        generalize fineR s = B at *
        cases B
        · rw [Bool.false_and, if_neg (by decide)] at hR
          subst hR
          go_wp2_with (first | ((with_reducible refine pl_load_st (b := b) (o := off + k * 3) hrk ?_ ?_ ?_); (· rfl); (· rfl)) | ((with_reducible refine pl_alloc_st ?_ ?_); (· rfl)) | ((with_reducible refine pl_store_st (b := wr.heap.size) (o := st0) (s := s) K0 ?_ ?_ ?_ ?_); (· rfl); (· rfl); (· rfl)) | ((with_reducible refine pl_load_st (b := wr.heap.size) (o := 0) r3 ?_ ?_ ?_); (· rfl); (· rfl)) | (go_at_call 28; refine hf.out.mono ?_; rintro e w1 ⟨rfl, hb⟩))
          go_ret
          exact ⟨rfl, hb3.trans (hb.mono hb3.size)⟩
        · rw [Bool.true_and] at hR
          have HR := Lib.hid hR
          clear hR
          go_wp2_with (first | ((with_reducible refine pl_load_st (b := b) (o := off + k * 3) hrk ?_ ?_ ?_); (· rfl); (· rfl)) | ((with_reducible refine pl_alloc_st ?_ ?_); (· rfl)) | ((with_reducible refine pl_store_st (b := wr.heap.size) (o := st0) (s := s) K0 ?_ ?_ ?_ ?_); (· rfl); (· rfl); (· rfl)) | ((with_reducible refine pl_load_st (b := wr.heap.size) (o := 0) r3 ?_ ?_ ?_); (· rfl); (· rfl)) | (go_at_call 28; refine hf.out.mono ?_; rintro e w1 ⟨rfl, hb⟩))
          go_roundw
          case rel => exact ⟨k + 1, by omega, by go_num, hb3.trans (hb.mono hb3.size), HR⟩
          case measure => simp [intOf]; omega
      · obtain rfl : k = l.length := by omega
        have hR := hr.out
        rw [List.drop_length, List.all_nil, if_pos rfl] at hR
        subst hR
        clear hr
        go_wp2_with fail
        go_ret
        exact ⟨rfl, hbel⟩
set_option maxRecDepth 100000 in
set_option maxHeartbeats 1000000 in
theorem rightRef_calls (a : Option Addr) (l : List St) (n cap : Nat) (w : World) (hn : n = l.length) (hl : l.length ≤ 140737488351232) (hK : KeysOk l) (hH : Sts w a l) :
    Calls Tryd.prog 16 #[.slice a n cap] w fun e w' => e = .returned (.int .i64 (rightW l)) ∧ Below w.heap.size w w' := by
  subst hn
  unfold rightW
  by_cases h32 : 32 < l.length
  · rw [if_pos h32]
    have q : (32 : Int) < (l.length : Int) := by omega
    go_enter Tryd.func16, Tryd.ntmps16
    go_wp2_with fail
    go_ret
    exact ⟨rfl, Below.refl _ _⟩
  · rw [if_neg h32]
    have q : ¬ (32 : Int) < (l.length : Int) := by omega
    obtain ⟨R, hR⟩ : ∃ R : Int, (if l.all fineR then (0 : Int) else 41) = R := ⟨_, rfl⟩
    rw [hR]
    have HR : Hid ((if (l.drop 0).all fineR then (0 : Int) else 41) = R) := Lib.hid hR
    clear hR h32
    go_enter Tryd.func16, Tryd.ntmps16
    go_wp2_with fail
    go_loopw [3] (fun i wr => ∃ k : Nat, k ≤ l.length ∧ i = .int .i64 k ∧ Below w.heap.size w wr ∧ Hid ((if (l.drop k).all fineR then (0 : Int) else 41) = R)) (fun i _ => l.length - (intOf i).toNat)
    case atStart => exact ⟨0, Nat.zero_le _, rfl, Below.refl _ _, HR⟩
    case round =>
      clear HR
      obtain ⟨k, hk, rfl, hbel, hr⟩ := hrel
      by_cases hlt : k < l.length
      · obtain ⟨b, off, rfl, hb, hc⟩ := hH.addr (by omega)
        have hrk := rangeAt_below (hc k hlt) hbel hb
        have hks := hK.at hlt
        have hR := hr.out
        rw [all_drop l k hlt] at hR
        generalize l.getD k st0 = s at *
        have hws := hbel.size
        have hf := Lib.hid (step_calls s wr hks)
        have p0 : (k : Int) < (l.length : Int) := by omega
        have p1 : (k : Int) ≤ 140737488351232 := by omega
        clear hr hc hks
        generalize fineR s = B at *
        cases B
        · rw [Bool.false_and, if_neg (by decide)] at hR
          subst hR
          go_wp2_with (first | ((with_reducible refine pl_load_st (b := b) (o := off + k * 3) hrk ?_ ?_ ?_); (· rfl); (· rfl)) | (go_at_call 27; refine hf.out.mono ?_; rintro e w1 ⟨rfl, hb⟩))
          go_ret
          exact ⟨rfl, hbel.trans (hb.mono hws)⟩
        · rw [Bool.true_and] at hR
          have HR := Lib.hid hR
          clear hR
          go_wp2_with (first | ((with_reducible refine pl_load_st (b := b) (o := off + k * 3) hrk ?_ ?_ ?_); (· rfl); (· rfl)) | (go_at_call 27; refine hf.out.mono ?_; rintro e w1 ⟨rfl, hb⟩))
          go_roundw
          case rel => exact ⟨k + 1, by omega, by go_num, hbel.trans (hb.mono hws), HR⟩
          case measure => simp [intOf]; omega
      · obtain rfl : k = l.length := by omega
        have hR := hr.out
        rw [List.drop_length, List.all_nil, if_pos rfl] at hR
        subst hR
        clear hr
        go_wp2_with fail
        go_ret
        exact ⟨rfl, hbel⟩
end Go.Proofs.YtoddjofckbfkhaaDoor.Wy
