/- The walk of cmp.Or over numbers. -/
import Derived.Test.YtoddjofckbfkhaaCmp
import Derived.Test.YtoddjofckbfkhaaRow
namespace Go.Proofs.Ytoddjofckbfkhaa.Wy
open Go.RowKit Mem Ops
def ints (l : List Int) : List Value := l.map (Value.int .i64)
/-- The first that is not zero. -/
def orL : List Int → Int
  | [] => 0
  | a :: l => if a = 0 then orL l else a
theorem orL_drop (l : List Int) (k : Nat) (hk : k < l.length) : orL (l.drop k) = if l.getD k 0 = 0 then orL (l.drop (k + 1)) else l.getD k 0 := by
  rw [List.drop_eq_getElem_cons hk, orL]; simp [hk]

theorem or_calls (a : Option Addr) (l : List Int) (n cap : Nat) (w : World) (hn : n = l.length) (hl : l.length ≤ 140737488351232) (hr : Row w a (ints l)) :
    Calls Try.prog 17 #[.slice a n cap] w fun e w' => e = .returned (.int .i64 (orL l)) ∧ w = w' := by
  subst hn
  generalize hR : orL l = R
  have HR : Hid (orL (l.drop 0) = R) := Lib.hid hR
  clear hR
  go_enter Try.func17, Try.ntmps17
  go_wp2
  go_loop [8] (fun i => ∃ k : Nat, k ≤ l.length ∧ i = .int .i64 k ∧ Hid (orL (l.drop k) = R)) (fun i => l.length - (intOf i).toNat)
  case atStart => exact ⟨0, Nat.zero_le _, rfl, HR⟩
  case round =>
    clear HR
    obtain ⟨k, hk, rfl, hh⟩ := hrel
    by_cases hlt : k < l.length
    · obtain ⟨b, off, rfl, hb, hc⟩ := hr.addr (by simp [ints]; omega)
      have hv := hc k (.int .i64 (l.getD k 0)) (by simp [ints, hlt])
      have hR := hh.out
      rw [orL_drop l k hlt] at hR
      clear hh hc
      generalize l.getD k 0 = x at *
      have q0 : (0 : Int) ≤ (k : Int) := by omega
      have q1 : (k : Int) < (l.length : Int) := by omega
      by_cases hx : x = 0
      · subst hx
        rw [if_pos rfl] at hR
        have HR := Lib.hid hR
        clear hR
        go_wp2
        go_round
        case rel => exact ⟨k + 1, by omega, by go_num, HR⟩
        case measure => simp [intOf]; omega
      · rw [if_neg hx] at hR
        subst hR
        have hne : (x != 0) = true := by simpa using hx
        go_wp2
        go_ret
        exact ⟨rfl, rfl⟩
    · obtain rfl : k = l.length := by omega
      have hR := hh.out
      rw [List.drop_length, orL] at hR
      subst hR
      clear hh
      go_wp2
      go_ret
      exact ⟨rfl, rfl⟩
end Go.Proofs.Ytoddjofckbfkhaa.Wy
