/- The walk of the document's right. -/
import Derived.Test.YtodjcgkbcbaadaaDoorVa
import Derived.Test.YtodjcgkbcbaadaaDoorFlW
import Derived.Test.YtodjcgkbcbaadaaDoorKeyW
namespace Go.Proofs.YtodjcgkbcbaadaaDoor.Va
open Go.RowKit Mem Ops Ut Fl
theorem and2047 (f : Nat) (hf : f < 18446744073709551616) : bits .and .u64 ((f : Int) / 4503599627370496) 2047 = ((f / 4503599627370496 % 2048 : Nat) : Int) := by
  rw [u64_and _ _ (by omega) (by omega) (by omega) (by omega)]
  have : f / 4503599627370496 &&& (2 ^ 11 - 1) = f / 4503599627370496 % 2 ^ 11 := Nat.and_two_pow_sub_one_eq_mod _ 11
  exact congrArg (fun n : Nat => (n : Int)) this
theorem fl_test (f : Nat) : (((f : Int) / 4503599627370496 % 2048 != 2047) && ((f : Int) != 9223372036854775808)) = (!(f / 4503599627370496 % 2048 == 2047) && !(f == 9223372036854775808)) := by
  have e1 : ((f : Int) / 4503599627370496 % 2048 == 2047) = (f / 4503599627370496 % 2048 == 2047) := by rw [Bool.eq_iff_iff, beq_iff_eq, beq_iff_eq]; omega
  have e2 : ((f : Int) == 9223372036854775808) = (f == 9223372036854775808) := by rw [Bool.eq_iff_iff, beq_iff_eq, beq_iff_eq]; omega
  unfold bne
  rw [e1, e2]
set_option maxRecDepth 100000 in
set_option maxHeartbeats 4000000 in
theorem right0_calls (v : V) (w : World) (hk : 0 ≤ v.kind ∧ v.kind ≤ 255) (hf : v.fl < 18446744073709551616) (hs : v.str.size ≤ 9223372036854775807) :
    Calls Tryd.prog 56 #[.agg v.cells.toArray] w fun e w' => e = .returned (.bool (rightR v)) ∧ Below w.heap.size w w' := by
  have hu := Lib.hid (fun w => utf8_calls v.str w (by omega))
  obtain ⟨kd, num, f, str⟩ := v
  simp only at hk hf hs hu
  obtain ⟨U, hU⟩ : ∃ U, Lib.validD str.data.toList = U := ⟨_, rfl⟩
  rw [hU] at hu
  have HU := Lib.hid hU
  clear hU
  have ha := and2047 f hf
  have hd := run_bits f
  obtain ⟨r, hr⟩ : ∃ r, rightR ⟨kd, num, f, str⟩ = r := ⟨_, rfl⟩
  rw [hr]
  have HR := Lib.hid hr
  have HF := Lib.hid hf
  have kc : kd = 0 ∨ kd = 1 ∨ kd = 2 ∨ kd = 3 ∨ kd = 4 ∨ kd = 5 ∨ kd = 6 ∨ kd = 7 ∨ kd = 8 ∨ kd = 9 ∨ kd = 10 ∨ kd = 11 ∨ (kd ≠ 0 ∧ kd ≠ 1 ∧ kd ≠ 2 ∧ kd ≠ 3 ∧ kd ≠ 4 ∧ kd ≠ 5 ∧ kd ≠ 6 ∧ kd ≠ 7 ∧ kd ≠ 8 ∧ kd ≠ 9 ∧ kd ≠ 10 ∧ kd ≠ 11) := by omega
  clear hr hf
  show Calls Tryd.prog 56 #[.agg #[.int .u8 kd, .int .i64 num, .float .f64 f, .string str]] w _
  rcases kc with rfl | rfl | rfl | rfl | rfl | rfl | rfl | rfl | rfl | rfl | rfl | rfl | ⟨n0, n1, n2, n3, n4, n5, n6, n7, n8, n9, n10, n11⟩
  all_goals go_enter Tryd.func56, Tryd.ntmps56
  all_goals go_wp2_with (first | (go_at_call 51; refine (hu.out _).mono ?_; rintro e w1 ⟨rfl, rfl⟩))
  all_goals go_ret
  all_goals refine ⟨?_, (Below.refl _ _).alloc (Nat.le_refl _) _⟩
  all_goals rw [← HR.out]
  all_goals have hU := HU.out
  all_goals simp [rightR, *]
  all_goals first | exact fl_test f | omega | (intros; omega)
end Go.Proofs.YtodjcgkbcbaadaaDoor.Va
