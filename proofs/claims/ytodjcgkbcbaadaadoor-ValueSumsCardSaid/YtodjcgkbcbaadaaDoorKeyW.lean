/- The walks of the document's Utf8, RightText and Key. -/
import Derived.Test.YtodjcgkbcbaadaaDoorUtfP
import Derived.Lib.ValidAsc
namespace Go.Proofs.YtodjcgkbcbaadaaDoor.Ut
open Go.RowKit Mem Ops
theorem utf8_calls (s : ByteArray) (w : World) (hs : s.size ≤ 9223372036854775807) : Calls Tryd.prog 51 #[.string s] w fun e w' => e = .returned (.bool (Lib.validD s.data.toList)) ∧ w = w' := by
  obtain ⟨R, hR⟩ : ∃ R, Lib.validD s.data.toList = R := ⟨_, rfl⟩
  rw [hR]
  have HR : Hid (Lib.validD (s.data.toList.drop 0) = R) := Lib.hid hR
  clear hR
  go_enter Tryd.func51, Tryd.ntmps51
  go_wp2
  go_loop [3] (fun i => ∃ k : Nat, k ≤ s.size ∧ i = .int .i64 k ∧ Hid (Lib.validD (s.data.toList.drop k) = R)) (fun i => s.size - (intOf i).toNat)
  case atStart => exact ⟨0, Nat.zero_le _, rfl, HR⟩
  case round =>
    clear HR
    obtain ⟨k, hk, rfl, hr⟩ := hrel
    by_cases hlt : k < s.size
    · have hR := hr.out
      have hw := wide_calls (s.extract k s.size) w
      have hll := len_str s
      rw [Lib.ext_list] at hw
      rw [valid_wide (s.data.toList.drop k) (by intro e; have := congrArg List.length e; simp at this; omega)] at hR
      have hle := wide_le (s.data.toList.drop k)
      rw [List.length_drop, hll] at hle
      generalize hn : wideR (s.data.toList.drop k) = n at *
      have HW := Lib.hid hw
      have p0 : (k : Int) < (s.size : Int) := by omega
      have p1 : (k : Int) ≤ (s.size : Int) := by omega
      have p2 : (k : Int) ≤ 9223372036854775806 := by omega
      have p3 : (k : Int) + (n : Int) ≤ 9223372036854775807 := by omega
      clear hw hn hll hr
      by_cases h0 : n = 0
      · subst h0
        rw [if_pos rfl] at hR
        subst hR
        go_wp2_with (go_at_call 103; refine HW.out.mono ?_; rintro e w' ⟨rfl, rfl⟩)
        go_ret
        exact ⟨rfl, rfl⟩
      · rw [if_neg h0, List.drop_drop] at hR
        have HR := Lib.hid hR
        have p4 : ((n : Int) == 0) = false := by simp; omega
        have p5 : 0 < n := by omega
        clear hR h0
        go_wp2_with (go_at_call 103; refine HW.out.mono ?_; rintro e w' ⟨rfl, rfl⟩)
        go_round
        case rel => exact ⟨k + n, by omega, by go_num, HR⟩
        case measure => simp [intOf]; omega
    · obtain rfl : k = s.size := by omega
      have hR := hr.out
      rw [← len_str s, List.drop_length, Lib.validD_nil] at hR
      subst hR
      clear hr
      go_wp2
      go_ret
      exact ⟨rfl, rfl⟩
end Go.Proofs.YtodjcgkbcbaadaaDoor.Ut
