/- The walks of the document's Utf8, RightText and Key. -/
import Derived.Test.YtoddjofckbfkhaaDoorUtfP
import Derived.Lib.ValidAsc
namespace Go.Proofs.YtoddjofckbfkhaaDoor.Ut
open Go.RowKit Mem Ops
theorem utf8_calls (s : ByteArray) (w : World) (hs : s.size ≤ 9223372036854775807) : Calls Tryd.prog 65 #[.string s] w fun e w' => e = .returned (.bool (Lib.validD s.data.toList)) ∧ w = w' := by
  obtain ⟨R, hR⟩ : ∃ R, Lib.validD s.data.toList = R := ⟨_, rfl⟩
  rw [hR]
  have HR : Hid (Lib.validD (s.data.toList.drop 0) = R) := Lib.hid hR
  clear hR
  go_enter Tryd.func65, Tryd.ntmps65
  go_wp2
  go_loop [3] (fun i => ∃ k : Nat, k ≤ s.size ∧ i = .int .i64 k ∧ Hid (Lib.validD (s.data.toList.drop k) = R)) (fun i => s.size - (intOf i).toNat)
  case atStart => exact ⟨0, Nat.zero_le _, rfl, HR⟩
  case round =>
    clear HR
    obtain ⟨k, hk, rfl, hr⟩ := hrel
    by_cases hlt : k < s.size
    · have hR := hr.out
      have hw := wide_calls (s.extract k s.size) w
      have hll := len_str s
      rw [Lib.ext_list] at hw
      rw [valid_wide (s.data.toList.drop k) (by intro e; have := congrArg List.length e; simp at this; omega)] at hR
      have hle := wide_le (s.data.toList.drop k)
      rw [List.length_drop, hll] at hle
      generalize hn : wideR (s.data.toList.drop k) = n at *
      have HW := Lib.hid hw
      have p0 : (k : Int) < (s.size : Int) := by omega
      have p1 : (k : Int) ≤ (s.size : Int) := by omega
      have p2 : (k : Int) ≤ 9223372036854775806 := by omega
      have p3 : (k : Int) + (n : Int) ≤ 9223372036854775807 := by omega
      clear hw hn hll hr
      by_cases h0 : n = 0
      · subst h0
        rw [if_pos rfl] at hR
        subst hR
        go_wp2_with (go_at_call 83; refine HW.out.mono ?_; rintro e w' ⟨rfl, rfl⟩)
        go_ret
        exact ⟨rfl, rfl⟩
      · rw [if_neg h0, List.drop_drop] at hR
        have HR := Lib.hid hR
        have p4 : ((n : Int) == 0) = false := by simp; omega
        have p5 : 0 < n := by omega
        clear hR h0
        go_wp2_with (go_at_call 83; refine HW.out.mono ?_; rintro e w' ⟨rfl, rfl⟩)
        go_round
        case rel => exact ⟨k + n, by omega, by go_num, HR⟩
        case measure => simp [intOf]; omega
    · obtain rfl : k = s.size := by omega
      have hR := hr.out
      rw [← len_str s, List.drop_length, Lib.validD_nil] at hR
      subst hR
      clear hr
      go_wp2
      go_ret
      exact ⟨rfl, rfl⟩
def okB (c : UInt8) : Bool := !(decide ((c.toNat : Int) < 32) || ((c.toNat : Int) == 127))
def plainT (l : List UInt8) : Bool := l.all okB
theorem plain_drop (l : List UInt8) (k : Nat) (hk : k < l.length) : plainT (l.drop k) = (okB (l.getD k 0) && plainT (l.drop (k + 1))) := by
  unfold plainT
  rw [List.drop_eq_getElem_cons hk, List.all_cons, List.getD_eq_getElem?_getD, List.getElem?_eq_getElem hk]
  rfl
theorem rightText_calls (s : ByteArray) (w : World) (hs : s.size ≤ 9223372036854775807) : Calls Tryd.prog 79 #[.string s] w fun e w' => e = .returned (.bool (plainT s.data.toList && Lib.validD s.data.toList)) ∧ w = w' := by
  have hu := utf8_calls s w hs
  generalize Lib.validD s.data.toList = V at *
  have HU := Lib.hid hu
  obtain ⟨R, hR⟩ : ∃ R, (plainT s.data.toList && V) = R := ⟨_, rfl⟩
  rw [hR]
  have HR : Hid ((plainT (s.data.toList.drop 0) && V) = R) := Lib.hid hR
  clear hR hu
  go_enter Tryd.func79, Tryd.ntmps79
  go_wp2
  go_loop [3] (fun i => ∃ k : Nat, k ≤ s.size ∧ i = .int .i64 k ∧ Hid ((plainT (s.data.toList.drop k) && V) = R)) (fun i => s.size - (intOf i).toNat)
  case atStart => exact ⟨0, Nat.zero_le _, rfl, HR⟩
  case round =>
    clear HR
    obtain ⟨k, hk, rfl, hr⟩ := hrel
    by_cases hlt : k < s.size
    · have hR := hr.out
      rw [plain_drop _ k (by rw [len_str]; exact hlt), ← str_at s k hlt] at hR
      have p0 : (k : Int) < (s.size : Int) := by omega
      have p2 : (k : Int) ≤ 9223372036854775806 := by omega
      have p3 : decide (k < s.size) = true := by simpa using hlt
      obtain ⟨y, hy⟩ : ∃ y : Int, ((s[k]'hlt).toNat : Int) = y := ⟨_, rfl⟩
      unfold okB at hR
      rw [hy] at hR
      clear hr
      by_cases hc : y < 32
      · rw [decide_eq_true hc, Bool.true_or, Bool.not_true, Bool.false_and, Bool.false_and] at hR
        subst hR
        go_wp2
        go_ret
        exact ⟨rfl, rfl⟩
      · rw [decide_eq_false hc, Bool.false_or] at hR
        by_cases hd : y = 127
        · have p4 : (y == 127) = true := by simpa using hd
          rw [p4, Bool.not_true, Bool.false_and, Bool.false_and] at hR
          subst hR
          clear hd
          go_wp2
          go_ret
          exact ⟨rfl, rfl⟩
        · have p4 : (y == 127) = false := by simpa using hd
          rw [p4, Bool.not_false, Bool.true_and] at hR
          have HR := Lib.hid hR
          clear hR hd
          go_wp2
          go_round
          case rel => exact ⟨k + 1, by omega, by go_num, HR⟩
          case measure => simp [intOf]; omega
    · obtain rfl : k = s.size := by omega
      have hR := hr.out
      rw [← len_str s, List.drop_length, show plainT [] = true from rfl, Bool.true_and] at hR
      subst hR
      clear hr
      go_wp2_with (go_at_call 65; refine HU.out.mono ?_; rintro e w' ⟨rfl, rfl⟩)
      go_ret
      exact ⟨rfl, rfl⟩
def keyR (l : List UInt8) : Bool := plainT l && (decide (1 ≤ l.length) && (decide (l.length ≤ 64) && Lib.validD l))
theorem keyRef_calls (s : ByteArray) (w : World) (hs : s.size ≤ 9223372036854775807) : Calls Tryd.prog 57 #[.string s] w fun e w' => e = .returned (.bool (keyR s.data.toList)) ∧ w = w' := by
  have hu := rightText_calls s w hs
  unfold keyR
  rw [len_str]
  generalize Lib.validD s.data.toList = V at *
  generalize plainT s.data.toList = B at *
  have HU := Lib.hid hu
  by_cases h1 : 1 ≤ s.size
  · rw [decide_eq_true h1, Bool.true_and]
    have p1 : (1 : Int) ≤ (s.size : Int) := by omega
    have p2 : 0 < s.size := by omega
    by_cases h2 : s.size ≤ 64
    · rw [decide_eq_true h2, Bool.true_and]
      have p3 : (s.size : Int) ≤ 64 := by omega
      clear hu h1
      go_enter Tryd.func57, Tryd.ntmps57
      go_wp2_with (go_at_call 79; refine HU.out.mono ?_; rintro e w' ⟨rfl, rfl⟩)
      go_ret
      exact ⟨rfl, rfl⟩
    · rw [decide_eq_false h2, Bool.false_and, Bool.and_false]
      have p3 : ¬ (s.size : Int) ≤ 64 := by omega
      clear hu h1
      go_enter Tryd.func57, Tryd.ntmps57
      go_wp2_with fail
      go_ret
      exact ⟨rfl, rfl⟩
  · rw [decide_eq_false h1, Bool.false_and, Bool.and_false]
    have p1 : ¬ (1 : Int) ≤ (s.size : Int) := by omega
    have p2 : ¬ 0 < s.size := by omega
    have p3 : s.size = 0 := by omega
    clear hu h1 p2
    go_enter Tryd.func57, Tryd.ntmps57
    go_wp2_with fail
    go_ret
    exact ⟨rfl, rfl⟩
end Go.Proofs.YtoddjofckbfkhaaDoor.Ut
