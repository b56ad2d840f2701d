/- The walk of ValueRights. -/
import Derived.Test.YtodjcgkbcbaadaaDoorRtV
import Derived.Test.YtodjcgkbcbaadaaDoorRtR
namespace Go.Proofs.YtodjcgkbcbaadaaDoor.Va
open Go.RowKit Mem Ops Ut Fl
attribute [local irreducible] wpQuiet wpAnyH
theorem scalar_calls (k : Int) (w : World) : Calls Tryd.prog 15 #[.int .u8 k] w fun e w' => e = .returned (.bool (decide (k ≤ 7))) ∧ w = w' := by
  go_enter Tryd.func15, Tryd.ntmps15
  go_wp2
  go_ret
  exact ⟨rfl, rfl⟩
theorem scalarRef_calls (k : Int) (w : World) : Calls Tryd.prog 16 #[.int .u8 k] w fun e w' => e = .returned (.bool (decide (k ≤ 7))) ∧ w = w' := by
  go_enter Tryd.func16, Tryd.ntmps16
  go_wp2
  go_ret
  exact ⟨rfl, rfl⟩
set_option maxRecDepth 100000 in
theorem rightRef_calls (v : V) (w : World) (hk : 0 ≤ v.kind ∧ v.kind ≤ 255) (hf : v.fl < 18446744073709551616) (hs : v.str.size ≤ 9223372036854775807) :
    Calls Tryd.prog 14 #[.agg v.cells.toArray] w fun e w' => e = .returned (.int .i64 (if rightR v = true then 0 else 30)) ∧ Below w.heap.size w w' := by
  obtain ⟨kd, num, f, str⟩ := v
  simp only at hk hf hs
  have hc := Lib.hid (fun w1 => right0_calls ⟨kd, num, f, str⟩ w1 hk hf hs)
  cases hR : rightR ⟨kd, num, f, str⟩
  · rw [hR] at hc
    clear hR hk hf hs
    go_enter Tryd.func14, Tryd.ntmps14
    go_wp2_with (first | ((with_reducible refine pl_boxw (s := ⟨kd, num, f, str⟩) ?_ ?_); (· rfl); intro w1 K1 hB hz1) | ((with_reducible refine pl_load_v (s := ⟨kd, num, f, str⟩) (blk_range K1) ?_ ?_ ?_); (· rfl); (· rfl)) | (go_at_call 56; refine (hc.out _).mono ?_; rintro e w5 ⟨rfl, hb5⟩))
    go_ret
    exact ⟨rfl, hB.trans (hb5.mono hB.size)⟩
  · rw [hR] at hc
    clear hR hk hf hs
    go_enter Tryd.func14, Tryd.ntmps14
    go_wp2_with (first | ((with_reducible refine pl_boxw (s := ⟨kd, num, f, str⟩) ?_ ?_); (· rfl); intro w1 K1 hB hz1) | ((with_reducible refine pl_load_v (s := ⟨kd, num, f, str⟩) (blk_range K1) ?_ ?_ ?_); (· rfl); (· rfl)) | (go_at_call 56; refine (hc.out _).mono ?_; rintro e w5 ⟨rfl, hb5⟩))
    go_ret
    exact ⟨rfl, hB.trans (hb5.mono hB.size)⟩
theorem fnRight : IsFn Tryd.prog 13 Tryd.f13 := ⟨Tryd.func13, by decide, rfl⟩
theorem fnRightRef : IsFn Tryd.prog 14 Tryd.f14 := ⟨Tryd.func14, by decide, rfl⟩
theorem fnScalar : IsFn Tryd.prog 15 Tryd.f15 := ⟨Tryd.func15, by decide, rfl⟩
theorem fnScalarRef : IsFn Tryd.prog 16 Tryd.f16 := ⟨Tryd.func16, by decide, rfl⟩
theorem qs_eql_bool {ops : Array Oper} {rest : List Oper} {a : Act} {dst : Option Tmp} {ty : TypeId} {pos : String} {aft : Array Edge} {gd : Option (Nat × Bool)} {C : World → Prop} {Q : Act → Prop} {t yt : TypeId} {x y : Operand} {b c : Bool} (ht : Tryd.prog.underlying t = some .bool) (hw : Region.wanted ⟨dst, .binOp .eql t x y yt, ty, pos, aft, gd⟩ (yielded ops a.tmps) = true) (hx : a.eval x = .bool b) (hy : a.eval y = .bool c)
    (h : wpQuiet Tryd.prog ops C Q rest (a.put dst (.bool (b == c)))) : wpQuiet Tryd.prog ops C Q (⟨dst, .binOp .eql t x y yt, ty, pos, aft, gd⟩ :: rest) a :=
  qs_value hw (fun w _ => by
    have he : (Op.equal t (.bool b) (.bool c)).run Tryd.prog w = .ok (b == c) w := run_equalIn_bool w 9999 t b c ht
    simp only [execOp, hx, hy, eqGuard, binOp, Sem.run_bind, Sem.run_pure, he, Result.andThen_ok, ite_self]) h
set_option maxRecDepth 100000 in
theorem rights_law (v : V) (k : Int) (w : World) (hk : 0 ≤ v.kind ∧ v.kind ≤ 255) (hf : v.fl < 18446744073709551616) (hs : v.str.size ≤ 9223372036854775807) (hT : Tabs w) :
    Calls Tryd.prog 4 #[.agg v.cells.toArray, .int .u8 k] w fun e w' => e = .returned (.bool true) ∧ Below w.heap.size w w' := by
  obtain ⟨kd, num, f, str⟩ := v
  have L1 := fun w1 (hb : Below w.heap.size w w1) => right_calls ⟨kd, num, f, str⟩ w1 hk hf hs (Utf8Tabs_below hT hb)
  have L2 := fun w1 => rightRef_calls ⟨kd, num, f, str⟩ w1 hk hf hs
  obtain ⟨r, hr⟩ : ∃ r : Int, (if rightR ⟨kd, num, f, str⟩ = true then 0 else 30) = r := ⟨_, rfl⟩
  rw [hr] at L1
  rw [hr] at L2
  clear hr hk hf hs hT
  go_enter Tryd.func4, Tryd.ntmps4
  go_wp2_with (first | ((with_reducible refine pl_boxw (s := ⟨kd, num, f, str⟩) ?_ ?_); (· rfl); intro w1 K1 hB hz1))
  refine region_grown (by kernel_rfl) (by kernel_rfl) ?_
  refine qs_load_v (b := w.heap.size) (s := ⟨kd, num, f, str⟩) K1 (by kernel_rfl) (by kernel_rfl) ?_
  refine qs_call (v := .int .i64 r) fnRight (by kernel_rfl) (vs := #[.agg (V.mk kd num f str).cells.toArray]) (by kernel_rfl) (fun w2 hw2 => (L1 w2 (hB.trans (hw2.mono hB.size))).mono fun _ _ ⟨he, hb⟩ => ⟨he, hw2.next hb⟩) ?_
  refine qs_load_v (b := w.heap.size) (s := ⟨kd, num, f, str⟩) K1 (by kernel_rfl) (by kernel_rfl) ?_
  refine qs_call (v := .int .i64 r) fnRightRef (by kernel_rfl) (vs := #[.agg (V.mk kd num f str).cells.toArray]) (by kernel_rfl) (fun w2 hw2 => (L2 w2).mono fun _ _ ⟨he, hb⟩ => ⟨he, hw2.next hb⟩) ?_
  refine qs_eql_int (k := .i64) (m := r) (n := r) (r := true) (by kernel_rfl) (by kernel_rfl) (by kernel_rfl) (by simp) ?_
  refine qs_move (v := .bool true) (by kernel_rfl) (by kernel_rfl) ?_
  refine qs_move (v := .int .u8 k) (by kernel_rfl) (by kernel_rfl) ?_
  refine qs_call (v := .bool (decide (k ≤ 7))) fnScalar (by kernel_rfl) (vs := #[.int .u8 k]) (by kernel_rfl) (fun w2 hw2 => (scalar_calls k w2).mono fun _ _ ⟨he, hb⟩ => ⟨he, hb ▸ hw2⟩) ?_
  refine qs_move (v := .int .u8 k) (by kernel_rfl) (by kernel_rfl) ?_
  refine qs_call (v := .bool (decide (k ≤ 7))) fnScalarRef (by kernel_rfl) (vs := #[.int .u8 k]) (by kernel_rfl) (fun w2 hw2 => (scalarRef_calls k w2).mono fun _ _ ⟨he, hb⟩ => ⟨he, hb ▸ hw2⟩) ?_
  refine qs_eql_bool (b := decide (k ≤ 7)) (c := decide (k ≤ 7)) Tryd.underlying4 (by kernel_rfl) (by kernel_rfl) (by kernel_rfl) ?_
  rw [beq_self_eq_true]
  refine qs_pick (b := true) (v := .bool true) (by kernel_rfl) (by kernel_rfl) (by kernel_rfl) ?_
  refine qs_assign (v := .bool true) (by kernel_rfl) (by kernel_rfl) ?_
  refine wpQuiet_nil ?_
  intro wq hwq
  simp only [Act.put, Exit.then, List.setIfInBounds_toArray, List.set_cons_succ, List.set_cons_zero]
  go_wp2_with fail
  go_ret
  exact ⟨rfl, hB.trans (hwq.mono hB.size)⟩
end Go.Proofs.YtodjcgkbcbaadaaDoor.Va
