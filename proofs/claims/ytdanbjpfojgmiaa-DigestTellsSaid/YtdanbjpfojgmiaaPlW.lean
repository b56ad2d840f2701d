/- The walks of digest.plain and strings.HasPrefix. -/
import Derived.Test.YtdanbjpfojgmiaaUnW
import Derived.Test.YtdanbjpfojgmiaaCmpW
import Derived.Test.YtdanbjpfojgmiaaHs
namespace Go.Proofs.Ytdanbjpfojgmiaa.Dg
open Go.RowKit Mem Ops

theorem all_drop (s : List UInt8) (k : Nat) (hk : k < s.length) : plainR (s.drop k) = (decide (0 ≤ digI (s.getD k 0)) && plainR (s.drop (k + 1))) := by
  rw [drop_cons s k hk]; rfl

set_option maxHeartbeats 400000 in
theorem plain_calls (s : ByteArray) (w : World) (hs : s.size ≤ 140737488351232) :
    Calls Try.prog 26 #[.string s] w fun e w' => e = .returned (.bool (plainR s.data.toList)) ∧ w = w' := by
  have hlen : s.data.toList.length = s.size := rfl
  generalize hR : plainR s.data.toList = R
  have HR := Lib.hid hR
  clear hR
  go_enter Try.func26, Try.ntmps26
  go_wp2
  go_loop [6] (fun i => ∃ k : Nat, k ≤ s.size ∧ i = .int .i64 k ∧ Hid (plainR (s.data.toList.drop k) = R)) (fun i => s.size - (intOf i).toNat)
  case atStart => exact ⟨0, Nat.zero_le _, rfl, HR⟩
  case round =>
    clear HR
    obtain ⟨k, hk, rfl, hr⟩ := hrel
    by_cases hlt : k < s.size
    · have hR := hr.out
      rw [all_drop _ k (by rw [hlen]; exact hlt), ← str_at s k hlt] at hR
      clear hr
      generalize hc : s[k] = c at hR
      by_cases hd : digI c < 0
      · rw [decide_eq_false (by omega)] at hR
        have HR := Lib.hid hR
        clear hR
        go_wp2_with (go_at_call 23; refine (ix_calls c _).mono ?_; rintro e w' ⟨rfl, rfl⟩)
        go_ret
        exact ⟨by rw [← HR.out]; rfl, rfl⟩
      · rw [decide_eq_true (by omega), Bool.true_and] at hR
        have HR := Lib.hid hR
        clear hR
        go_wp2_with (go_at_call 23; refine (ix_calls c _).mono ?_; rintro e w' ⟨rfl, rfl⟩)
        go_round
        case rel => exact ⟨k + 1, by omega, by go_num, HR.out⟩
        case measure => simp [intOf]; omega
    · obtain rfl : k = s.size := by omega
      have hR := hr.out
      rw [← hlen, List.drop_length] at hR
      have HR := Lib.hid hR
      clear hR hr
      go_wp2
      go_ret
      exact ⟨by rw [← HR.out]; rfl, rfl⟩

theorem prefix_eq (s p : ByteArray) (h : p.size ≤ s.size) : ((s.extract 0 p.size).toList == p.toList) = decide (p.data.toList <+: s.data.toList) := by
  rw [Bool.eq_iff_iff, beq_iff_eq, decide_eq_true_eq, ByteArray.toList_eq, ByteArray.toList_eq]
  have he : (s.extract 0 p.size).data.toList = s.data.toList.take p.data.toList.length := by
    rcases s with ⟨⟨l⟩⟩
    rw [ByteArray.extract_mk]
    show List.take (p.size - 0) (List.drop 0 l) = List.take p.size l
    rw [List.drop_zero, Nat.sub_zero]
  rw [he]
  constructor
  · intro h; rw [← h]; exact List.take_prefix _ _
  · intro h; exact (List.prefix_iff_eq_take.1 h).symm

set_option maxHeartbeats 400000 in
theorem hasPrefix_calls (s p : ByteArray) (w : World) :
    Calls Try.prog 30 #[.string s, .string p] w fun e w' => e = .returned (.bool (decide (p.data.toList <+: s.data.toList))) ∧ w = w' := by
  by_cases h : p.size ≤ s.size
  · have hq := prefix_eq s p h
    generalize decide (p.data.toList <+: s.data.toList) = r at *
    have c3 : decide (p.size ≤ s.size) = true := by simpa using h
    have c4 : (0 : Int) ≤ (p.size : Int) := by omega
    have c5 : (p.size : Int) ≤ (s.size : Int) := by omega
    clear h
    go_enter Try.func30, Try.ntmps30
    go_wp2
    go_ret
    exact ⟨rfl, rfl⟩
  · have hn : decide (p.data.toList <+: s.data.toList) = false := by
      simp only [decide_eq_false_iff_not]; intro k; have := k.length_le; exact h this
    rw [hn]
    have c3 : decide (p.size ≤ s.size) = false := by simpa using h
    clear h hn
    go_enter Try.func30, Try.ntmps30
    go_wp2
    go_ret
    exact ⟨rfl, rfl⟩
theorem hasPrefix2_calls (s p : ByteArray) (w : World) :
    Calls Try.prog 27 #[.string s, .string p] w fun e w' => e = .returned (.bool (decide (p.data.toList <+: s.data.toList))) ∧ w = w' := by
  have c := hasPrefix_calls s p w
  generalize decide (p.data.toList <+: s.data.toList) = r at *
  have C := Lib.hid c
  clear c
  go_enter Try.func27, Try.ntmps27
  go_wp2_with (go_at_call 30; refine C.out.mono ?_; rintro e w' ⟨rfl, rfl⟩)
  go_ret
  exact ⟨rfl, rfl⟩
end Go.Proofs.Ytdanbjpfojgmiaa.Dg
