/- The walks of way.plain and simple, of the document's plainByte and plain. -/
import Derived.Test.YtoddjofckbfkhaaDoorKeyW
namespace Go.Proofs.YtoddjofckbfkhaaDoor.Ut
open Go.RowKit Mem Ops
/-- A byte that needs no quotes. -/
def plainZ (x : Int) : Bool := decide ((97 ≤ x ∧ x ≤ 122) ∨ (65 ≤ x ∧ x ≤ 90) ∨ (48 ≤ x ∧ x ≤ 57) ∨ x = 95 ∨ x = 45)
def plainB (c : UInt8) : Bool := plainZ (c.toNat : Int)
def simpleR (l : List UInt8) : Bool := l.all plainB
theorem simple_drop (l : List UInt8) (k : Nat) (hk : k < l.length) : simpleR (l.drop k) = (plainB (l.getD k 0) && simpleR (l.drop (k + 1))) := by
  unfold simpleR
  rw [List.drop_eq_getElem_cons hk, List.all_cons, List.getD_eq_getElem?_getD, List.getElem?_eq_getElem hk]
  rfl
set_option maxHeartbeats 4000000 in
theorem plain_calls (x : Int) (w : World) (h0 : 0 ≤ x) (h1 : x < 256) : Calls Tryd.prog 60 #[.int .u8 x] w fun e w' => e = .returned (.bool (plainZ x)) ∧ w = w' := by
  have k : (0 ≤ x ∧ x ≤ 44) ∨ (45 ≤ x ∧ x ≤ 45) ∨ (46 ≤ x ∧ x ≤ 47) ∨ (48 ≤ x ∧ x ≤ 57) ∨ (58 ≤ x ∧ x ≤ 64) ∨ (65 ≤ x ∧ x ≤ 90) ∨ (91 ≤ x ∧ x ≤ 94) ∨ (95 ≤ x ∧ x ≤ 95) ∨ (96 ≤ x ∧ x ≤ 96) ∨ (97 ≤ x ∧ x ≤ 122) ∨ (123 ≤ x ∧ x ≤ 255) := by omega
  rcases k with ⟨k1, k2⟩ | ⟨k1, k2⟩ | ⟨k1, k2⟩ | ⟨k1, k2⟩ | ⟨k1, k2⟩ | ⟨k1, k2⟩ | ⟨k1, k2⟩ | ⟨k1, k2⟩ | ⟨k1, k2⟩ | ⟨k1, k2⟩ | ⟨k1, k2⟩
  · rw [show plainZ x = false from by unfold plainZ; exact decide_eq_false (by omega)]
    have t0 : ¬ 97 ≤ x := by omega
    have t1 : x ≤ 122 := by omega
    have t2 : ¬ 65 ≤ x := by omega
    have t3 : x ≤ 90 := by omega
    have t4 : ¬ 48 ≤ x := by omega
    have t5 : x ≤ 57 := by omega
    have t6 : (x == 95) = false := beq_eq_false_iff_ne.mpr (by omega)
    have t7 : (x == 45) = false := beq_eq_false_iff_ne.mpr (by omega)
    clear k1 k2
    go_enter Tryd.func60, Tryd.ntmps60
    go_wp2_with fail
    go_ret
    exact ⟨rfl, rfl⟩
  · rw [show plainZ x = true from by unfold plainZ; exact decide_eq_true (by omega)]
    have t0 : ¬ 97 ≤ x := by omega
    have t1 : x ≤ 122 := by omega
    have t2 : ¬ 65 ≤ x := by omega
    have t3 : x ≤ 90 := by omega
    have t4 : ¬ 48 ≤ x := by omega
    have t5 : x ≤ 57 := by omega
    have t6 : (x == 95) = false := beq_eq_false_iff_ne.mpr (by omega)
    have t7 : (x == 45) = true := beq_iff_eq.mpr (by omega)
    clear k1 k2
    go_enter Tryd.func60, Tryd.ntmps60
    go_wp2_with fail
    go_ret
    exact ⟨rfl, rfl⟩
  · rw [show plainZ x = false from by unfold plainZ; exact decide_eq_false (by omega)]
    have t0 : ¬ 97 ≤ x := by omega
    have t1 : x ≤ 122 := by omega
    have t2 : ¬ 65 ≤ x := by omega
    have t3 : x ≤ 90 := by omega
    have t4 : ¬ 48 ≤ x := by omega
    have t5 : x ≤ 57 := by omega
    have t6 : (x == 95) = false := beq_eq_false_iff_ne.mpr (by omega)
    have t7 : (x == 45) = false := beq_eq_false_iff_ne.mpr (by omega)
    clear k1 k2
    go_enter Tryd.func60, Tryd.ntmps60
    go_wp2_with fail
    go_ret
    exact ⟨rfl, rfl⟩
  · rw [show plainZ x = true from by unfold plainZ; exact decide_eq_true (by omega)]
    have t0 : ¬ 97 ≤ x := by omega
    have t1 : x ≤ 122 := by omega
    have t2 : ¬ 65 ≤ x := by omega
    have t3 : x ≤ 90 := by omega
    have t4 : 48 ≤ x := by omega
    have t5 : x ≤ 57 := by omega
    have t6 : (x == 95) = false := beq_eq_false_iff_ne.mpr (by omega)
    have t7 : (x == 45) = false := beq_eq_false_iff_ne.mpr (by omega)
    clear k1 k2
    go_enter Tryd.func60, Tryd.ntmps60
    go_wp2_with fail
    go_ret
    exact ⟨rfl, rfl⟩
  · rw [show plainZ x = false from by unfold plainZ; exact decide_eq_false (by omega)]
    have t0 : ¬ 97 ≤ x := by omega
    have t1 : x ≤ 122 := by omega
    have t2 : ¬ 65 ≤ x := by omega
    have t3 : x ≤ 90 := by omega
    have t4 : 48 ≤ x := by omega
    have t5 : ¬ x ≤ 57 := by omega
    have t6 : (x == 95) = false := beq_eq_false_iff_ne.mpr (by omega)
    have t7 : (x == 45) = false := beq_eq_false_iff_ne.mpr (by omega)
    clear k1 k2
    go_enter Tryd.func60, Tryd.ntmps60
    go_wp2_with fail
    go_ret
    exact ⟨rfl, rfl⟩
  · rw [show plainZ x = true from by unfold plainZ; exact decide_eq_true (by omega)]
    have t0 : ¬ 97 ≤ x := by omega
    have t1 : x ≤ 122 := by omega
    have t2 : 65 ≤ x := by omega
    have t3 : x ≤ 90 := by omega
    have t4 : 48 ≤ x := by omega
    have t5 : ¬ x ≤ 57 := by omega
    have t6 : (x == 95) = false := beq_eq_false_iff_ne.mpr (by omega)
    have t7 : (x == 45) = false := beq_eq_false_iff_ne.mpr (by omega)
    clear k1 k2
    go_enter Tryd.func60, Tryd.ntmps60
    go_wp2_with fail
    go_ret
    exact ⟨rfl, rfl⟩
  · rw [show plainZ x = false from by unfold plainZ; exact decide_eq_false (by omega)]
    have t0 : ¬ 97 ≤ x := by omega
    have t1 : x ≤ 122 := by omega
    have t2 : 65 ≤ x := by omega
    have t3 : ¬ x ≤ 90 := by omega
    have t4 : 48 ≤ x := by omega
    have t5 : ¬ x ≤ 57 := by omega
    have t6 : (x == 95) = false := beq_eq_false_iff_ne.mpr (by omega)
    have t7 : (x == 45) = false := beq_eq_false_iff_ne.mpr (by omega)
    clear k1 k2
    go_enter Tryd.func60, Tryd.ntmps60
    go_wp2_with fail
    go_ret
    exact ⟨rfl, rfl⟩
  · rw [show plainZ x = true from by unfold plainZ; exact decide_eq_true (by omega)]
    have t0 : ¬ 97 ≤ x := by omega
    have t1 : x ≤ 122 := by omega
    have t2 : 65 ≤ x := by omega
    have t3 : ¬ x ≤ 90 := by omega
    have t4 : 48 ≤ x := by omega
    have t5 : ¬ x ≤ 57 := by omega
    have t6 : (x == 95) = true := beq_iff_eq.mpr (by omega)
    have t7 : (x == 45) = false := beq_eq_false_iff_ne.mpr (by omega)
    clear k1 k2
    go_enter Tryd.func60, Tryd.ntmps60
    go_wp2_with fail
    go_ret
    exact ⟨rfl, rfl⟩
  · rw [show plainZ x = false from by unfold plainZ; exact decide_eq_false (by omega)]
    have t0 : ¬ 97 ≤ x := by omega
    have t1 : x ≤ 122 := by omega
    have t2 : 65 ≤ x := by omega
    have t3 : ¬ x ≤ 90 := by omega
    have t4 : 48 ≤ x := by omega
    have t5 : ¬ x ≤ 57 := by omega
    have t6 : (x == 95) = false := beq_eq_false_iff_ne.mpr (by omega)
    have t7 : (x == 45) = false := beq_eq_false_iff_ne.mpr (by omega)
    clear k1 k2
    go_enter Tryd.func60, Tryd.ntmps60
    go_wp2_with fail
    go_ret
    exact ⟨rfl, rfl⟩
  · rw [show plainZ x = true from by unfold plainZ; exact decide_eq_true (by omega)]
    have t0 : 97 ≤ x := by omega
    have t1 : x ≤ 122 := by omega
    have t2 : 65 ≤ x := by omega
    have t3 : ¬ x ≤ 90 := by omega
    have t4 : 48 ≤ x := by omega
    have t5 : ¬ x ≤ 57 := by omega
    have t6 : (x == 95) = false := beq_eq_false_iff_ne.mpr (by omega)
    have t7 : (x == 45) = false := beq_eq_false_iff_ne.mpr (by omega)
    clear k1 k2
    go_enter Tryd.func60, Tryd.ntmps60
    go_wp2_with fail
    go_ret
    exact ⟨rfl, rfl⟩
  · rw [show plainZ x = false from by unfold plainZ; exact decide_eq_false (by omega)]
    have t0 : 97 ≤ x := by omega
    have t1 : ¬ x ≤ 122 := by omega
    have t2 : 65 ≤ x := by omega
    have t3 : ¬ x ≤ 90 := by omega
    have t4 : 48 ≤ x := by omega
    have t5 : ¬ x ≤ 57 := by omega
    have t6 : (x == 95) = false := beq_eq_false_iff_ne.mpr (by omega)
    have t7 : (x == 45) = false := beq_eq_false_iff_ne.mpr (by omega)
    clear k1 k2
    go_enter Tryd.func60, Tryd.ntmps60
    go_wp2_with fail
    go_ret
    exact ⟨rfl, rfl⟩
set_option maxHeartbeats 4000000 in
theorem plainByte_calls (x : Int) (w : World) (h0 : 0 ≤ x) (h1 : x < 256) : Calls Tryd.prog 64 #[.int .u8 x] w fun e w' => e = .returned (.bool (plainZ x)) ∧ w = w' := by
  have k : (0 ≤ x ∧ x ≤ 44) ∨ (45 ≤ x ∧ x ≤ 45) ∨ (46 ≤ x ∧ x ≤ 47) ∨ (48 ≤ x ∧ x ≤ 57) ∨ (58 ≤ x ∧ x ≤ 64) ∨ (65 ≤ x ∧ x ≤ 90) ∨ (91 ≤ x ∧ x ≤ 94) ∨ (95 ≤ x ∧ x ≤ 95) ∨ (96 ≤ x ∧ x ≤ 96) ∨ (97 ≤ x ∧ x ≤ 122) ∨ (123 ≤ x ∧ x ≤ 255) := by omega
  rcases k with ⟨k1, k2⟩ | ⟨k1, k2⟩ | ⟨k1, k2⟩ | ⟨k1, k2⟩ | ⟨k1, k2⟩ | ⟨k1, k2⟩ | ⟨k1, k2⟩ | ⟨k1, k2⟩ | ⟨k1, k2⟩ | ⟨k1, k2⟩ | ⟨k1, k2⟩
  · rw [show plainZ x = false from by unfold plainZ; exact decide_eq_false (by omega)]
    have t0 : ¬ 97 ≤ x := by omega
    have t1 : x ≤ 122 := by omega
    have t2 : ¬ 65 ≤ x := by omega
    have t3 : x ≤ 90 := by omega
    have t4 : ¬ 48 ≤ x := by omega
    have t5 : x ≤ 57 := by omega
    have t6 : (x == 95) = false := beq_eq_false_iff_ne.mpr (by omega)
    have t7 : (x == 45) = false := beq_eq_false_iff_ne.mpr (by omega)
    clear k1 k2
    go_enter Tryd.func64, Tryd.ntmps64
    go_wp2_with fail
    go_ret
    exact ⟨rfl, rfl⟩
  · rw [show plainZ x = true from by unfold plainZ; exact decide_eq_true (by omega)]
    have t0 : ¬ 97 ≤ x := by omega
    have t1 : x ≤ 122 := by omega
    have t2 : ¬ 65 ≤ x := by omega
    have t3 : x ≤ 90 := by omega
    have t4 : ¬ 48 ≤ x := by omega
    have t5 : x ≤ 57 := by omega
    have t6 : (x == 95) = false := beq_eq_false_iff_ne.mpr (by omega)
    have t7 : (x == 45) = true := beq_iff_eq.mpr (by omega)
    clear k1 k2
    go_enter Tryd.func64, Tryd.ntmps64
    go_wp2_with fail
    go_ret
    exact ⟨rfl, rfl⟩
  · rw [show plainZ x = false from by unfold plainZ; exact decide_eq_false (by omega)]
    have t0 : ¬ 97 ≤ x := by omega
    have t1 : x ≤ 122 := by omega
    have t2 : ¬ 65 ≤ x := by omega
    have t3 : x ≤ 90 := by omega
    have t4 : ¬ 48 ≤ x := by omega
    have t5 : x ≤ 57 := by omega
    have t6 : (x == 95) = false := beq_eq_false_iff_ne.mpr (by omega)
    have t7 : (x == 45) = false := beq_eq_false_iff_ne.mpr (by omega)
    clear k1 k2
    go_enter Tryd.func64, Tryd.ntmps64
    go_wp2_with fail
    go_ret
    exact ⟨rfl, rfl⟩
  · rw [show plainZ x = true from by unfold plainZ; exact decide_eq_true (by omega)]
    have t0 : ¬ 97 ≤ x := by omega
    have t1 : x ≤ 122 := by omega
    have t2 : ¬ 65 ≤ x := by omega
    have t3 : x ≤ 90 := by omega
    have t4 : 48 ≤ x := by omega
    have t5 : x ≤ 57 := by omega
    have t6 : (x == 95) = false := beq_eq_false_iff_ne.mpr (by omega)
    have t7 : (x == 45) = false := beq_eq_false_iff_ne.mpr (by omega)
    clear k1 k2
    go_enter Tryd.func64, Tryd.ntmps64
    go_wp2_with fail
    go_ret
    exact ⟨rfl, rfl⟩
  · rw [show plainZ x = false from by unfold plainZ; exact decide_eq_false (by omega)]
    have t0 : ¬ 97 ≤ x := by omega
    have t1 : x ≤ 122 := by omega
    have t2 : ¬ 65 ≤ x := by omega
    have t3 : x ≤ 90 := by omega
    have t4 : 48 ≤ x := by omega
    have t5 : ¬ x ≤ 57 := by omega
    have t6 : (x == 95) = false := beq_eq_false_iff_ne.mpr (by omega)
    have t7 : (x == 45) = false := beq_eq_false_iff_ne.mpr (by omega)
    clear k1 k2
    go_enter Tryd.func64, Tryd.ntmps64
    go_wp2_with fail
    go_ret
    exact ⟨rfl, rfl⟩
  · rw [show plainZ x = true from by unfold plainZ; exact decide_eq_true (by omega)]
    have t0 : ¬ 97 ≤ x := by omega
    have t1 : x ≤ 122 := by omega
    have t2 : 65 ≤ x := by omega
    have t3 : x ≤ 90 := by omega
    have t4 : 48 ≤ x := by omega
    have t5 : ¬ x ≤ 57 := by omega
    have t6 : (x == 95) = false := beq_eq_false_iff_ne.mpr (by omega)
    have t7 : (x == 45) = false := beq_eq_false_iff_ne.mpr (by omega)
    clear k1 k2
    go_enter Tryd.func64, Tryd.ntmps64
    go_wp2_with fail
    go_ret
    exact ⟨rfl, rfl⟩
  · rw [show plainZ x = false from by unfold plainZ; exact decide_eq_false (by omega)]
    have t0 : ¬ 97 ≤ x := by omega
    have t1 : x ≤ 122 := by omega
    have t2 : 65 ≤ x := by omega
    have t3 : ¬ x ≤ 90 := by omega
    have t4 : 48 ≤ x := by omega
    have t5 : ¬ x ≤ 57 := by omega
    have t6 : (x == 95) = false := beq_eq_false_iff_ne.mpr (by omega)
    have t7 : (x == 45) = false := beq_eq_false_iff_ne.mpr (by omega)
    clear k1 k2
    go_enter Tryd.func64, Tryd.ntmps64
    go_wp2_with fail
    go_ret
    exact ⟨rfl, rfl⟩
  · rw [show plainZ x = true from by unfold plainZ; exact decide_eq_true (by omega)]
    have t0 : ¬ 97 ≤ x := by omega
    have t1 : x ≤ 122 := by omega
    have t2 : 65 ≤ x := by omega
    have t3 : ¬ x ≤ 90 := by omega
    have t4 : 48 ≤ x := by omega
    have t5 : ¬ x ≤ 57 := by omega
    have t6 : (x == 95) = true := beq_iff_eq.mpr (by omega)
    have t7 : (x == 45) = false := beq_eq_false_iff_ne.mpr (by omega)
    clear k1 k2
    go_enter Tryd.func64, Tryd.ntmps64
    go_wp2_with fail
    go_ret
    exact ⟨rfl, rfl⟩
  · rw [show plainZ x = false from by unfold plainZ; exact decide_eq_false (by omega)]
    have t0 : ¬ 97 ≤ x := by omega
    have t1 : x ≤ 122 := by omega
    have t2 : 65 ≤ x := by omega
    have t3 : ¬ x ≤ 90 := by omega
    have t4 : 48 ≤ x := by omega
    have t5 : ¬ x ≤ 57 := by omega
    have t6 : (x == 95) = false := beq_eq_false_iff_ne.mpr (by omega)
    have t7 : (x == 45) = false := beq_eq_false_iff_ne.mpr (by omega)
    clear k1 k2
    go_enter Tryd.func64, Tryd.ntmps64
    go_wp2_with fail
    go_ret
    exact ⟨rfl, rfl⟩
  · rw [show plainZ x = true from by unfold plainZ; exact decide_eq_true (by omega)]
    have t0 : 97 ≤ x := by omega
    have t1 : x ≤ 122 := by omega
    have t2 : 65 ≤ x := by omega
    have t3 : ¬ x ≤ 90 := by omega
    have t4 : 48 ≤ x := by omega
    have t5 : ¬ x ≤ 57 := by omega
    have t6 : (x == 95) = false := beq_eq_false_iff_ne.mpr (by omega)
    have t7 : (x == 45) = false := beq_eq_false_iff_ne.mpr (by omega)
    clear k1 k2
    go_enter Tryd.func64, Tryd.ntmps64
    go_wp2_with fail
    go_ret
    exact ⟨rfl, rfl⟩
  · rw [show plainZ x = false from by unfold plainZ; exact decide_eq_false (by omega)]
    have t0 : 97 ≤ x := by omega
    have t1 : ¬ x ≤ 122 := by omega
    have t2 : 65 ≤ x := by omega
    have t3 : ¬ x ≤ 90 := by omega
    have t4 : 48 ≤ x := by omega
    have t5 : ¬ x ≤ 57 := by omega
    have t6 : (x == 95) = false := beq_eq_false_iff_ne.mpr (by omega)
    have t7 : (x == 45) = false := beq_eq_false_iff_ne.mpr (by omega)
    clear k1 k2
    go_enter Tryd.func64, Tryd.ntmps64
    go_wp2_with fail
    go_ret
    exact ⟨rfl, rfl⟩
set_option maxHeartbeats 1000000 in
theorem simple_calls (s : ByteArray) (w : World) (hs : s.size ≤ 9223372036854775807) : Calls Tryd.prog 31 #[.string s] w fun e w' => e = .returned (.bool (simpleR s.data.toList)) ∧ w = w' := by
  obtain ⟨R, hR⟩ : ∃ R, (simpleR s.data.toList) = R := ⟨_, rfl⟩
  rw [hR]
  have HR : Hid ((simpleR (s.data.toList.drop 0)) = R) := Lib.hid hR
  clear hR
  go_enter Tryd.func31, Tryd.ntmps31
  go_wp2
  go_loop [6] (fun i => ∃ k : Nat, k ≤ s.size ∧ i = .int .i64 k ∧ Hid ((simpleR (s.data.toList.drop k)) = R)) (fun i => s.size - (intOf i).toNat)
  case atStart => exact ⟨0, Nat.zero_le _, rfl, HR⟩
  case round =>
    clear HR
    obtain ⟨k, hk, rfl, hr⟩ := hrel
    by_cases hlt : k < s.size
    · have hR := hr.out
      rw [simple_drop _ k (by rw [len_str]; exact hlt), ← str_at s k hlt] at hR
      unfold plainB at hR
      have p0 : (k : Int) < (s.size : Int) := by omega
      have p2 : (k : Int) ≤ 9223372036854775806 := by omega
      have p3 : decide (k < s.size) = true := by simpa using hlt
      have LT := (s[k]'hlt).toNat_lt
      obtain ⟨y, hy⟩ : ∃ y : Int, ((s[k]'hlt).toNat : Int) = y := ⟨_, rfl⟩
      have hb := Lib.hid (plain_calls y w (by omega) (by omega))
      rw [hy] at hR
      clear hr LT
      generalize plainZ y = B at *
      cases B
      · rw [Bool.false_and] at hR
        subst hR
        go_wp2_with (go_at_call 60; refine hb.out.mono ?_; rintro e w' ⟨rfl, rfl⟩)
        go_ret
        exact ⟨rfl, rfl⟩
      · rw [Bool.true_and] at hR
        have HR := Lib.hid hR
        clear hR
        go_wp2_with (go_at_call 60; refine hb.out.mono ?_; rintro e w' ⟨rfl, rfl⟩)
        go_round
        case rel => exact ⟨k + 1, by omega, by go_num, HR⟩
        case measure => simp [intOf]; omega
    · obtain rfl : k = s.size := by omega
      have hR := hr.out
      rw [← len_str s, List.drop_length, show simpleR [] = true from rfl] at hR
      subst hR
      clear hr
      go_wp2
      go_ret
      exact ⟨rfl, rfl⟩
set_option maxHeartbeats 1000000 in
theorem plainRef_calls (s : ByteArray) (w : World) (hs : s.size ≤ 9223372036854775807) : Calls Tryd.prog 33 #[.string s] w fun e w' => e = .returned (.bool (simpleR s.data.toList && !s.data.toList.isEmpty)) ∧ w = w' := by
  obtain ⟨E, hE⟩ : ∃ E, s.data.toList.isEmpty = E := ⟨_, rfl⟩
  rw [hE]
  have HE := Lib.hid hE
  clear hE
  obtain ⟨R, hR⟩ : ∃ R, (simpleR s.data.toList && !E) = R := ⟨_, rfl⟩
  rw [hR]
  have HR : Hid ((simpleR (s.data.toList.drop 0) && !E) = R) := Lib.hid hR
  clear hR
  go_enter Tryd.func33, Tryd.ntmps33
  go_wp2
  go_loop [3] (fun i => ∃ k : Nat, k ≤ s.size ∧ i = .int .i64 k ∧ Hid ((simpleR (s.data.toList.drop k) && !E) = R)) (fun i => s.size - (intOf i).toNat)
  case atStart => exact ⟨0, Nat.zero_le _, rfl, HR⟩
  case round =>
    clear HR
    obtain ⟨k, hk, rfl, hr⟩ := hrel
    by_cases hlt : k < s.size
    · have hR := hr.out
      rw [simple_drop _ k (by rw [len_str]; exact hlt), ← str_at s k hlt] at hR
      unfold plainB at hR
      have p0 : (k : Int) < (s.size : Int) := by omega
      have p2 : (k : Int) ≤ 9223372036854775806 := by omega
      have p3 : decide (k < s.size) = true := by simpa using hlt
      have LT := (s[k]'hlt).toNat_lt
      obtain ⟨y, hy⟩ : ∃ y : Int, ((s[k]'hlt).toNat : Int) = y := ⟨_, rfl⟩
      have hb := Lib.hid (plainByte_calls y w (by omega) (by omega))
      rw [hy] at hR
      clear hr LT
      generalize plainZ y = B at *
      cases B
      · rw [Bool.false_and, Bool.false_and] at hR
        subst hR
        go_wp2_with (go_at_call 64; refine hb.out.mono ?_; rintro e w' ⟨rfl, rfl⟩)
        go_ret
        exact ⟨rfl, rfl⟩
      · rw [Bool.true_and] at hR
        have HR := Lib.hid hR
        clear hR
        go_wp2_with (go_at_call 64; refine hb.out.mono ?_; rintro e w' ⟨rfl, rfl⟩)
        go_round
        case rel => exact ⟨k + 1, by omega, by go_num, HR⟩
        case measure => simp [intOf]; omega
    · obtain rfl : k = s.size := by omega
      have hR := hr.out
      rw [← len_str s, List.drop_length, show simpleR [] = true from rfl, Bool.true_and] at hR
      subst hR
      clear hr
      have hE := HE.out
      clear HE
      cases E
      · have n1 : ¬ s.toList = [] := by rw [ByteArray.toList_eq]; simpa using hE
        have n2 : s.toList.isEmpty = false := by simpa using n1
        clear hE
        go_wp2
        go_ret
        exact ⟨rfl, rfl⟩
      · have n1 : s.toList = [] := by rw [ByteArray.toList_eq]; simpa using hE
        clear hE
        go_wp2
        go_ret
        exact ⟨rfl, rfl⟩
end Go.Proofs.YtoddjofckbfkhaaDoor.Ut
