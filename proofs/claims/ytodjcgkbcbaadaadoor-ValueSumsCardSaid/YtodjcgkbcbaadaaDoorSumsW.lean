/- The walk of ValueSums. -/
import Derived.Test.YtodjcgkbcbaadaaDoorSumW
import Derived.Test.YtodjcgkbcbaadaaDoorNameW
import Derived.Laws.Concat
set_option linter.unusedVariables false
namespace Go.Proofs.YtodjcgkbcbaadaaDoor.Va
open Go.RowKit Mem Ops Ut Fl
attribute [local irreducible] wpQuiet wpAnyH
def nameL (k : Int) : List UInt8 := if 12 ≤ k then [] else names.getD k.toNat []
theorem nameOf_eq (k : Int) : nameOf k = ⟨(nameL k).toArray⟩ := by
  unfold nameOf nameL nmB
  split <;> rfl
theorem nameL_x (k : Int) (h0 : 0 ≤ k) : kindL ⟨(nameL k ++ [120]).toArray⟩ = (0, 4) := by
  have kc : k = 0 ∨ k = 1 ∨ k = 2 ∨ k = 3 ∨ k = 4 ∨ k = 5 ∨ k = 6 ∨ k = 7 ∨ k = 8 ∨ k = 9 ∨ k = 10 ∨ k = 11 ∨ 12 ≤ k := by omega
  rcases kc with rfl | rfl | rfl | rfl | rfl | rfl | rfl | rfl | rfl | rfl | rfl | rfl | h
  all_goals simp only [kindL, findK, nmB, ByteArray.toList_eq]
  all_goals first | decide | (rw [show nameL k = [] from if_pos h]; decide)
theorem nameL_len (k : Int) (h0 : 0 ≤ k) : (nameL k).length ≤ 100 := by
  have kc : k = 0 ∨ k = 1 ∨ k = 2 ∨ k = 3 ∨ k = 4 ∨ k = 5 ∨ k = 6 ∨ k = 7 ∨ k = 8 ∨ k = 9 ∨ k = 10 ∨ k = 11 ∨ 12 ≤ k := by omega
  rcases kc with rfl | rfl | rfl | rfl | rfl | rfl | rfl | rfl | rfl | rfl | rfl | rfl | h
  all_goals first | decide | (rw [show nameL k = [] from if_pos h]; decide)
theorem fnSum : IsFn Tryd.prog 21 Tryd.f21 := ⟨Tryd.func21, by decide, rfl⟩
theorem fnSumRef : IsFn Tryd.prog 22 Tryd.f22 := ⟨Tryd.func22, by decide, rfl⟩
theorem fnSame : IsFn Tryd.prog 20 Tryd.f20 := ⟨Tryd.func20, by decide, rfl⟩
theorem fnNameRef : IsFn Tryd.prog 23 Tryd.f23 := ⟨Tryd.func23, by decide, rfl⟩
set_option maxRecDepth 100000 in
set_option maxHeartbeats 2000000 in
theorem sums_law (v : V) (n k : Int) (w : World) (hk : 0 ≤ v.kind ∧ v.kind ≤ 255) (hf : v.fl < 18446744073709551616) (hs : v.str.size ≤ 9223372036854775807) (h0 : 0 ≤ k) (h1 : k ≤ 255) (hT : Tabs w) (hN : NamesAt 0 w) (hM : NamesAt 1 w) :
    Calls Tryd.prog 5 #[.agg v.cells.toArray, .int .i64 n, .int .u8 k] w fun e w' => e = .returned (.bool true) ∧ Below w.heap.size w w' := by
  obtain ⟨kd, num, f, str⟩ := v
  have L1 := fun w1 (hb : Below w.heap.size w w1) => sum_calls ⟨kd, num, f, str⟩ n w1 hk hf hs (Utf8Tabs_below hT hb)
  have L2 := fun w1 => sumRef_calls ⟨kd, num, f, str⟩ n w1 hk hf hs
  obtain ⟨S, hS⟩ : ∃ S, sumV ⟨kd, num, f, str⟩ n = S := ⟨_, rfl⟩
  rw [hS] at L1
  rw [hS] at L2
  have L3 := fun w1 (hb : Below w.heap.size w w1) => nameRef_calls k w1 h0 h1 (hM.below hb)
  have L4 := Lib.hid (fun w1 (hb : Below w.heap.size w w1) => name_calls k w1 h0 h1 (hN.below hb))
  have hx := nameL_x k h0
  have hadd := fun w1 : World => run_string_add_lists (P := Tryd.prog) w1 (nameL k) [120] (by have := nameL_len k h0; simp; omega)
  obtain ⟨C, hC⟩ : ∃ C : ByteArray, ⟨(nameL k ++ [120]).toArray⟩ = C := ⟨_, rfl⟩
  rw [hC] at hx hadd
  rw [← nameOf_eq] at hadd
  obtain ⟨B, hB0⟩ : ∃ B, nameOf k = B := ⟨_, rfl⟩
  rw [hB0] at L3 L4 hadd
  obtain ⟨X, hX⟩ : ∃ X, kindL B = X := ⟨_, rfl⟩
  have L5 := Lib.hid (fun w1 (hb : Below w.heap.size w w1) => hX ▸ kindOf_calls B w1 (hN.below hb))
  have L6 := Lib.hid (fun w1 (hb : Below w.heap.size w w1) => hX ▸ kindOfRef_calls B w1 (hM.below hb))
  have L7 := Lib.hid (fun w1 (hb : Below w.heap.size w w1) => hx ▸ kindOf_calls C w1 (hN.below hb))
  obtain ⟨ka, ke⟩ := X
  clear hS hC hB0 hX hx hN hM hT hk hf hs h0 h1
  go_enter Tryd.func5, Tryd.ntmps5
  go_wp2_with (first | ((with_reducible refine pl_boxw (s := ⟨kd, num, f, str⟩) ?_ ?_); (· rfl); intro w1 K1 hB hz1) | (go_at_call 17; refine (L4.out _ hB).mono ?_; rintro e w5 ⟨rfl, rfl⟩))
  refine (L5.out _ hB).mono ?_
  rintro e w5 ⟨rfl, rfl⟩
  go_wp2_with fail
  refine (L6.out _ hB).mono ?_
  rintro e w5 ⟨rfl, rfl⟩
  go_wp2_with fail
  refine (L7.out _ hB).mono ?_
  rintro e w5 ⟨rfl, rfl⟩
  go_wp2_with fail
  refine region_grown (by kernel_rfl) (by kernel_rfl) ?_
  refine qs_load_v (b := w.heap.size) (s := ⟨kd, num, f, str⟩) K1 (by kernel_rfl) (by kernel_rfl) ?_
  refine qs_move (v := .int .i64 n) (by kernel_rfl) (by kernel_rfl) ?_
  refine qs_call (v := .agg (V.cells S).toArray) fnSum (by kernel_rfl) (vs := #[.agg (V.mk kd num f str).cells.toArray, .int .i64 n]) (by kernel_rfl) (fun w2 hw2 => (L1 w2 (hB.trans (hw2.mono hB.size))).mono fun _ _ ⟨he, hb⟩ => ⟨he, hw2.next hb⟩) ?_
  simp only [Act.put, List.setIfInBounds_toArray, List.set_cons_succ, List.set_cons_zero]
  refine qs_load_v (b := w.heap.size) (s := ⟨kd, num, f, str⟩) K1 (by kernel_rfl) (by kernel_rfl) ?_
  refine qs_move (v := .int .i64 n) (by kernel_rfl) (by kernel_rfl) ?_
  refine qs_call (v := .agg (V.cells S).toArray) fnSumRef (by kernel_rfl) (vs := #[.agg (V.mk kd num f str).cells.toArray, .int .i64 n]) (by kernel_rfl) (fun w2 hw2 => (L2 w2).mono fun _ _ ⟨he, hb⟩ => ⟨he, hw2.next hb⟩) ?_
  simp only [Act.put, List.setIfInBounds_toArray, List.set_cons_succ, List.set_cons_zero]
  refine qs_call (v := .bool true) fnSame (by kernel_rfl) (vs := #[.agg (V.cells S).toArray, .agg (V.cells S).toArray]) (by kernel_rfl) (fun w2 hw2 => (same_self S w2).mono fun _ _ ⟨he, hb⟩ => ⟨he, hw2.next hb⟩) ?_
  refine qs_move (v := .bool true) (by kernel_rfl) (by kernel_rfl) ?_
  simp only [Act.put, List.setIfInBounds_toArray, List.set_cons_succ, List.set_cons_zero]
  refine qs_move (v := .string B) (by kernel_rfl) (by kernel_rfl) ?_
  refine qs_move (v := .int .u8 k) (by kernel_rfl) (by kernel_rfl) ?_
  refine qs_call (v := .string B) fnNameRef (by kernel_rfl) (vs := #[.int .u8 k]) (by kernel_rfl) (fun w2 hw2 => (L3 w2 (hB.trans (hw2.mono hB.size))).mono fun _ _ ⟨he, hb⟩ => ⟨he, hb ▸ hw2⟩) ?_
  simp only [Act.put, List.setIfInBounds_toArray, List.set_cons_succ, List.set_cons_zero]
  refine qs_eql_str (s := B) (u := B) (r := true) (by kernel_rfl) (by kernel_rfl) (by kernel_rfl) (by simp) ?_
  refine qs_pick (b := true) (v := .bool true) (by kernel_rfl) (by kernel_rfl) (by kernel_rfl) ?_
  refine qs_move (v := .bool true) (by kernel_rfl) (by kernel_rfl) ?_
  simp only [Act.put, List.setIfInBounds_toArray, List.set_cons_succ, List.set_cons_zero]
  refine qs_move (v := .int .u8 ka) (by kernel_rfl) (by kernel_rfl) ?_
  refine qs_move (v := .int .u8 ka) (by kernel_rfl) (by kernel_rfl) ?_
  refine qs_eql_int (k := .u8) (m := ka) (n := ka) (r := true) (by kernel_rfl) (by kernel_rfl) (by kernel_rfl) (by simp) ?_
  refine qs_pick (b := true) (v := .bool true) (by kernel_rfl) (by kernel_rfl) (by kernel_rfl) ?_
  refine qs_move (v := .bool true) (by kernel_rfl) (by kernel_rfl) ?_
  simp only [Act.put, List.setIfInBounds_toArray, List.set_cons_succ, List.set_cons_zero]
  refine qs_move (v := .int .i64 ke) (by kernel_rfl) (by kernel_rfl) ?_
  refine qs_move (v := .int .i64 ke) (by kernel_rfl) (by kernel_rfl) ?_
  refine qs_eql_int (k := .i64) (m := ke) (n := ke) (r := true) (by kernel_rfl) (by kernel_rfl) (by kernel_rfl) (by simp) ?_
  refine qs_pick (b := true) (v := .bool true) (by kernel_rfl) (by kernel_rfl) (by kernel_rfl) ?_
  refine qs_move (v := .bool true) (by kernel_rfl) (by kernel_rfl) ?_
  simp only [Act.put, List.setIfInBounds_toArray, List.set_cons_succ, List.set_cons_zero]
  refine qs_move (v := .int .i64 4) (by kernel_rfl) (by kernel_rfl) ?_
  refine qs_eql_int (k := .i64) (m := 4) (n := 4) (r := true) (by kernel_rfl) (by kernel_rfl) (by kernel_rfl) (by simp) ?_
  refine qs_pick (b := true) (v := .bool true) (by kernel_rfl) (by kernel_rfl) (by kernel_rfl) ?_
  refine qs_assign (v := .bool true) (by kernel_rfl) (by kernel_rfl) ?_
  refine wpQuiet_nil ?_
  intro wq hwq
  simp only [Act.put, Exit.then, List.setIfInBounds_toArray, List.set_cons_succ, List.set_cons_zero]
  go_wp2_with fail
  go_ret
  exact ⟨rfl, hB.trans (hwq.mono hB.size)⟩
end Go.Proofs.YtodjcgkbcbaadaaDoor.Va
