/- The walks of math's small functions on floats. -/
import Derived.Test.YtodjcgkbcbaadaaDoorProg
import Derived.Test.YtodjcgkbcbaadaaDoorFl
import Derived.WalkKit
import Derived.WalkLawsBesides
import Derived.Lib.ValidLaws
import Derived.Lib.Hide
import Derived.Laws.Externs
import Derived.Laws.BitsAll
import Derived.Laws.BitsAllLaws
namespace Go.Proofs.YtodjcgkbcbaadaaDoor.Fl
open Go.RowKit
theorem run_bits (b : Nat) (w : World) : (callFunc 57 #[.float .f64 b]).run Tryd.prog w = .ok (.value (.int .u64 b)) w := by
  rw [run_callFunc_extern (e := Extern.MathFloatBits.float64bits) Tryd.func57 (by kernel_rfl) (by kernel_rfl) (by kernel_rfl) (by kernel_rfl)]
  rfl
theorem run_frombits (b : Nat) (w : World) : (callFunc 121 #[.int .u64 b]).run Tryd.prog w = .ok (.value (.float .f64 b)) w := by
  rw [run_callFunc_extern (e := Extern.MathFloatBits.float64frombits) Tryd.func121 (by kernel_rfl) (by kernel_rfl) (by kernel_rfl) (by kernel_rfl)]
  rfl
theorem order_self (b : Nat) : (Ieee.double.order b b != some .eq) = nan b := by
  cases h : nan b
  · rw [order_key b b h h, cmp_def, if_neg (by omega), if_pos rfl]; rfl
  · rw [order_nan b b (.inl h)]; rfl
theorem isNaN_calls (b : Nat) (w : World) : Calls Tryd.prog 54 #[.float .f64 b] w fun e w' => e = .returned (.bool (nan b)) ∧ w = w' := by
  have h := order_self b
  generalize nan b = r at *
  go_enter Tryd.func54, Tryd.ntmps54
  go_wp2
  go_ret
  exact ⟨by rw [← h]; rfl, rfl⟩
theorem wrap_neg (b : Nat) (hb : b < 18446744073709551616) : decide (wrap64 (b : Int) < 0) = decide (9223372036854775808 ≤ b) := by
  apply decide_eq_decide.mpr
  unfold wrap64
  omega
theorem and_sign (b : Nat) (hb : b < 18446744073709551616) : bits .andNot .u64 (b : Int) 9223372036854775808 = ((b % 9223372036854775808 : Nat) : Int) := by
  rw [u64_andNot _ _ (by omega) (by omega) (by omega) (by omega)]
  have : b &&& (2 ^ 63 - 1) = b % 2 ^ 63 := Nat.and_two_pow_sub_one_eq_mod b 63
  exact congrArg (fun n : Nat => (n : Int)) this
theorem signbit_calls (b : Nat) (hb : b < 18446744073709551616) (w : World) : Calls Tryd.prog 55 #[.float .f64 b] w fun e w' => e = .returned (.bool (decide (9223372036854775808 ≤ b))) ∧ w = w' := by
  have hd := run_bits b
  go_enter Tryd.func55, Tryd.ntmps55
  go_wp2
  go_ret
  exact ⟨congrArg (fun r => Ending.returned (Value.bool r)) (wrap_neg b hb), rfl⟩
set_option maxRecDepth 100000 in
theorem abs_calls (b : Nat) (hb : b < 18446744073709551616) (w : World) : Calls Tryd.prog 105 #[.float .f64 b] w fun e w' => e = .returned (.float .f64 (b % 9223372036854775808)) ∧ w = w' := by
  have hd := run_bits b
  have hd2 : ∀ w, (callFunc 121 #[.int .u64 ((b : Int) % 9223372036854775808)]).run Tryd.prog w = .ok (.value (.float .f64 (b % 9223372036854775808))) w := fun w => run_frombits (b % 9223372036854775808) w
  have hx := and_sign b hb
  go_enter Tryd.func105, Tryd.ntmps105
  go_wp2
  go_ret
  exact ⟨rfl, rfl⟩
def inf (b : Nat) : Bool := b % 9223372036854775808 == 9218868437227405312
theorem inf_order (b : Nat) : (Ieee.double.order (b % 9223372036854775808) 9218868437227405311 == some .gt) = inf b := by
  have hr : rung (b % 9223372036854775808) = b % 9223372036854775808 := by unfold rung; omega
  have hn : neg (b % 9223372036854775808) = false := by unfold neg; rw [Nat.div_eq_of_lt (by omega)]; rfl
  cases h : nan (b % 9223372036854775808)
  · rw [order_key _ _ h (by decide)]
    have k2 : key 9218868437227405311 = 9218868437227405311 := by decide
    have k1 : key (b % 9223372036854775808) = (b % 9223372036854775808 : Nat) := by unfold key; rw [hn, if_neg (by decide), hr]
    unfold nan at h
    rw [hr, decide_eq_false_iff_not] at h
    rw [k1, k2]
    unfold inf
    by_cases e : b % 9223372036854775808 = 9218868437227405312
    · rw [e]; rfl
    · rw [cmp_def, beq_eq_false_iff_ne.mpr e]
      by_cases q : ((b % 9223372036854775808 : Nat) : Int) < 9218868437227405311
      · rw [if_pos q]; rfl
      · rw [if_neg q, if_pos (by omega)]; rfl
  · rw [order_nan _ _ (.inl h)]
    unfold nan at h
    rw [hr, decide_eq_true_eq] at h
    unfold inf
    have e : b % 9223372036854775808 ≠ 9218868437227405312 := by omega
    rw [beq_eq_false_iff_ne.mpr e]; rfl
set_option maxRecDepth 100000 in
theorem isInf_calls (b : Nat) (hb : b < 18446744073709551616) (w : World) : Calls Tryd.prog 53 #[.float .f64 b, .int .i64 0] w fun e w' => e = .returned (.bool (inf b)) ∧ w = w' := by
  have h := inf_order b
  have ha := Lib.hid (fun w => abs_calls b hb w)
  generalize inf b = r at *
  go_enter Tryd.func53, Tryd.ntmps53
  go_wp2_with (first | (go_at_call 105; refine (ha.out _).mono ?_; rintro e w1 ⟨rfl, rfl⟩))
  go_ret
  exact ⟨by rw [← h]; rfl, rfl⟩
end Go.Proofs.YtodjcgkbcbaadaaDoor.Fl
