/- The walks of value.Sum, of the document's Sum and Same. -/
import Derived.Test.YtodjcgkbcbaadaaDoorRightsW
import Derived.Laws.Rows
set_option linter.unusedVariables false
namespace Go.Proofs.YtodjcgkbcbaadaaDoor.Va
open Go.RowKit Mem Ops Ut Fl
attribute [local irreducible] wpQuiet wpAnyH
theorem run_call_bits {a : Act} {dst : Option Tmp} {ty : TypeId} {pos : String} {aft : Array Edge} {gd : Option (Nat × Bool)} {args : Array Operand} {tys : Array TypeId} {f : Nat} (hv : args.map a.eval = #[.float .f64 f]) (w : World) :
    (execOp a.eval ⟨dst, .call ⟨.value (.func 57), args, tys⟩, ty, pos, aft, gd⟩).run Tryd.prog w = .ok (.value (.int .u64 f)) w := by
  have hf := run_bits f w
  rw [← hv] at hf
  simp [execOp, resolve, Act.eval, Deferred.ofValue, invoke]
  simpa using hf
theorem qs_bits {ops : Array Oper} {rest : List Oper} {a : Act} {dst : Option Tmp} {ty : TypeId} {pos : String} {aft : Array Edge} {gd : Option (Nat × Bool)} {C : World → Prop} {Q : Act → Prop} {args : Array Operand} {tys : Array TypeId} {f : Nat} (hw : Region.wanted ⟨dst, .call ⟨.value (.func 57), args, tys⟩, ty, pos, aft, gd⟩ (yielded ops a.tmps) = true) (hv : args.map a.eval = #[.float .f64 f])
    (h : wpQuiet Tryd.prog ops C Q rest (a.put dst (.int .u64 f))) : wpQuiet Tryd.prog ops C Q (⟨dst, .call ⟨.value (.func 57), args, tys⟩, ty, pos, aft, gd⟩ :: rest) a :=
  qs_value hw (fun w _ => run_call_bits hv w) h
set_option maxRecDepth 100000 in
theorem same_self (v : V) (w : World) : Calls Tryd.prog 20 #[.agg v.cells.toArray, .agg v.cells.toArray] w fun e w' => e = .returned (.bool true) ∧ Below w.heap.size w w' := by
  obtain ⟨kd, num, f, str⟩ := v
  go_enter Tryd.func20, Tryd.ntmps20
  go_wp2_with (first | ((fail_if_success (have := hg1)); (with_reducible refine pl_boxw (s := ⟨kd, num, f, str⟩) ?_ ?_); (· rfl); intro u1 G1 hG hg1) | ((with_reducible refine pl_boxw (s := ⟨kd, num, f, str⟩) ?_ ?_); (· rfl); intro w1 K1 hB hz1))
  have K2 := G1.below hB G1.lt
  rw [hg1] at K1
  refine region_grown (by kernel_rfl) (by kernel_rfl) ?_
  refine qs_field (b := w.heap.size) (o := 0) (off := 0) fld0 (by kernel_rfl) (by kernel_rfl) ?_
  refine qs_load_cell (b := w.heap.size) (o := 0) (u := .int .u8 kd) K2 rfl (by kernel_rfl) aggK (by kernel_rfl) ?_
  refine qs_field (b := w.heap.size + 1) (o := 0) (off := 0) fld0 (by kernel_rfl) (by kernel_rfl) ?_
  refine qs_load_cell (b := w.heap.size + 1) (o := 0) (u := .int .u8 kd) K1 rfl (by kernel_rfl) aggK (by kernel_rfl) ?_
  refine qs_eql_int (k := .u8) (m := kd) (n := kd) (r := true) (by kernel_rfl) (by kernel_rfl) (by kernel_rfl) (by simp) ?_
  refine qs_move (v := .bool true) (by kernel_rfl) (by kernel_rfl) ?_
  simp only [Act.put, List.setIfInBounds_toArray, List.set_cons_succ, List.set_cons_zero]
  refine qs_field (b := w.heap.size) (o := 0) (off := 1) fld1 (by kernel_rfl) (by kernel_rfl) ?_
  refine qs_load_cell (b := w.heap.size) (o := 1) (u := .int .i64 num) K2 rfl (by kernel_rfl) aggN (by kernel_rfl) ?_
  refine qs_field (b := w.heap.size + 1) (o := 0) (off := 1) fld1 (by kernel_rfl) (by kernel_rfl) ?_
  refine qs_load_cell (b := w.heap.size + 1) (o := 1) (u := .int .i64 num) K1 rfl (by kernel_rfl) aggN (by kernel_rfl) ?_
  refine qs_eql_int (k := .i64) (m := num) (n := num) (r := true) (by kernel_rfl) (by kernel_rfl) (by kernel_rfl) (by simp) ?_
  refine qs_pick (b := true) (v := .bool true) (by kernel_rfl) (by kernel_rfl) (by kernel_rfl) ?_
  refine qs_move (v := .bool true) (by kernel_rfl) (by kernel_rfl) ?_
  simp only [Act.put, List.setIfInBounds_toArray, List.set_cons_succ, List.set_cons_zero]
  refine qs_field (b := w.heap.size) (o := 0) (off := 2) fld2 (by kernel_rfl) (by kernel_rfl) ?_
  refine qs_load_cell (b := w.heap.size) (o := 2) (u := .float .f64 f) K2 rfl (by kernel_rfl) aggF (by kernel_rfl) ?_
  refine qs_bits (f := f) (by kernel_rfl) (by kernel_rfl) ?_
  refine qs_field (b := w.heap.size + 1) (o := 0) (off := 2) fld2 (by kernel_rfl) (by kernel_rfl) ?_
  refine qs_load_cell (b := w.heap.size + 1) (o := 2) (u := .float .f64 f) K1 rfl (by kernel_rfl) aggF (by kernel_rfl) ?_
  refine qs_bits (f := f) (by kernel_rfl) (by kernel_rfl) ?_
  refine qs_eql_int (k := .u64) (m := (f : Int)) (n := (f : Int)) (r := true) (by kernel_rfl) (by kernel_rfl) (by kernel_rfl) (by simp) ?_
  refine qs_pick (b := true) (v := .bool true) (by kernel_rfl) (by kernel_rfl) (by kernel_rfl) ?_
  refine qs_move (v := .bool true) (by kernel_rfl) (by kernel_rfl) ?_
  simp only [Act.put, List.setIfInBounds_toArray, List.set_cons_succ, List.set_cons_zero]
  refine qs_field (b := w.heap.size) (o := 0) (off := 3) fld3 (by kernel_rfl) (by kernel_rfl) ?_
  refine qs_load_cell (b := w.heap.size) (o := 3) (u := .string str) K2 rfl (by kernel_rfl) aggS (by kernel_rfl) ?_
  refine qs_field (b := w.heap.size + 1) (o := 0) (off := 3) fld3 (by kernel_rfl) (by kernel_rfl) ?_
  refine qs_load_cell (b := w.heap.size + 1) (o := 3) (u := .string str) K1 rfl (by kernel_rfl) aggS (by kernel_rfl) ?_
  refine qs_eql_str (s := str) (u := str) (r := true) (by kernel_rfl) (by kernel_rfl) (by kernel_rfl) (by simp) ?_
  refine qs_pick (b := true) (v := .bool true) (by kernel_rfl) (by kernel_rfl) (by kernel_rfl) ?_
  refine qs_assign (v := .bool true) (by kernel_rfl) (by kernel_rfl) ?_
  refine wpQuiet_nil ?_
  intro wq hwq
  simp only [Act.put, Exit.then, List.setIfInBounds_toArray, List.set_cons_succ, List.set_cons_zero]
  go_wp2_with fail
  go_ret
  have hz := hG.trans (hB.mono hG.size)
  exact ⟨rfl, hz.trans (hwq.mono hz.size)⟩
theorem v_ret {fn : Func} {s : V} {w w' : World} {a : Act} {g : Nat} {T : TypeId} {p : Tmp} (h : fn.results = #[.cell p 27]) (hd : a.defers = []) (hp : a.tmps.getD p undef = .pointer (some ⟨g, 0, none⟩)) (hg : Blk w' g s.cells.toArray T)
    (hb : Below w.heap.size w w') : bodyPost Tryd.prog fn (fun e w' => e = .returned (.agg s.cells.toArray) ∧ Below w.heap.size w w') .ret a w' :=
  bodyPost_ret (results_cell_row h a.tmps w' g T _ (0, 0) _ hp hg Tryd.underlying27 rfl (by rw [sizeV]; rfl)) hd ⟨rfl, hb⟩
def sumV (v : V) (n : Int) : V := if v.kind = 7 ∧ rightR v = true then ⟨v.kind, wrap64 (v.num + n), v.fl, v.str⟩ else v
set_option maxRecDepth 100000 in
set_option maxHeartbeats 2000000 in
theorem sum_no (kd num n : Int) (f : Nat) (str : ByteArray) (w : World) (h7 : kd ≠ 7) :
    Calls Tryd.prog 21 #[.agg (V.mk kd num f str).cells.toArray, .int .i64 n] w fun e w' => e = .returned (.agg (V.cells ⟨kd, num, f, str⟩).toArray) ∧ Below w.heap.size w w' := by
  have p7 : (kd == 7) = false := beq_eq_false_iff_ne.mpr h7
  clear h7
  go_enter Tryd.func21, Tryd.ntmps21
  go_wp2_with (first | ((with_reducible refine pl_boxw (s := ⟨kd, num, f, str⟩) ?_ ?_); (· rfl); intro w1 K1 hB hz1; obtain ⟨c0, c1, c2, c3⟩ := v_cells K1) | ((with_reducible refine pl_allocw (b := w.heap.size + 1) hz1 ?_ ?_); (· rfl); intro w2 K3 far2 up2; replace K1 := far2 _ _ _ K1; replace hB := up2 _ _ (by omega) hB; clear c0 c1 c2 c3; obtain ⟨c0, c1, c2, c3⟩ := v_cells K1) | ((with_reducible refine pl_load_v (s := ⟨kd, num, f, str⟩) (blk_range K1) ?_ ?_ ?_); (· rfl); (· rfl)) | ((with_reducible refine pl_storew (o := v0) (s := ⟨kd, num, f, str⟩) K3 ?_ ?_ ?_ ?_); (· rfl); (· rfl); (· rfl); clear K3; intro w3 K3 far2 up2; replace K1 := far2 _ _ _ (by omega) K1; replace hB := up2 _ _ (by omega) hB; clear c0 c1 c2 c3; obtain ⟨c0, c1, c2, c3⟩ := v_cells K1))
  exact v_ret (s := ⟨kd, num, f, str⟩) rfl rfl rfl K3 hB
set_option maxRecDepth 100000 in
set_option maxHeartbeats 2000000 in
theorem sum_yes (num n : Int) (f : Nat) (str : ByteArray) (w : World) (hR : rightR ⟨7, num, f, str⟩ = true) (hf : f < 18446744073709551616) (hs : str.size ≤ 9223372036854775807) (hT : Tabs w) :
    Calls Tryd.prog 21 #[.agg (V.mk 7 num f str).cells.toArray, .int .i64 n] w fun e w' => e = .returned (.agg (V.cells ⟨7, wrap64 (num + n), f, str⟩).toArray) ∧ Below w.heap.size w w' := by
  have hc := Lib.hid (fun w1 (hb : Below w.heap.size w w1) => right_calls ⟨7, num, f, str⟩ w1 ⟨(show (0 : Int) ≤ 7 by decide), (show (7 : Int) ≤ 255 by decide)⟩ hf hs (Utf8Tabs_below hT hb))
  rw [hR] at hc
  rw [if_pos rfl] at hc
  clear hR
  go_enter Tryd.func21, Tryd.ntmps21
  go_wp2_with (first | ((with_reducible refine pl_boxw (s := ⟨7, num, f, str⟩) ?_ ?_); (· rfl); intro w1 K1 hB hz1; obtain ⟨c0, c1, c2, c3⟩ := v_cells K1) | ((with_reducible refine pl_allocw (b := w.heap.size + 1) hz1 ?_ ?_); (· rfl); intro w2 K3 far2 up2; replace K1 := far2 _ _ _ K1; replace hB := up2 _ _ (by omega) hB; clear c0 c1 c2 c3; obtain ⟨c0, c1, c2, c3⟩ := v_cells K1) | ((with_reducible refine pl_load_v (s := ⟨7, num, f, str⟩) (blk_range K1) ?_ ?_ ?_); (· rfl); (· rfl)) | ((with_reducible refine pl_storew (o := v0) (s := ⟨7, wrap64 (num + n), f, str⟩) K3 ?_ ?_ ?_ ?_); (· rfl); (· rfl); (· rfl); clear K3; intro w3 K3 far2 up2; replace K1 := far2 _ _ _ (by omega) K1; replace hB := up2 _ _ (by omega) hB; clear c0 c1 c2 c3; obtain ⟨c0, c1, c2, c3⟩ := v_cells K1) | (go_at_call 13; refine (hc.out _ hB).mono ?_; rintro e w5 ⟨rfl, hb5⟩; replace K1 := K1.below hb5 K1.lt; replace K3 := K3.below hb5 K3.lt; replace hB := hB.trans (hb5.mono hB.size); clear c0 c1 c2 c3; obtain ⟨c0, c1, c2, c3⟩ := v_cells K1) | ((with_reducible refine pl_put (i := 1) (u := .int .i64 (wrap64 (num + n))) K1 (by omega) (oneI _ _) ?_ infoN (cellsI _ _) ?_ ?_ ?_); (· rfl); (· rfl); (· rfl); intro w4 K9 far2 up2; replace K1 : Blk w4 w.heap.size (V.cells ⟨7, wrap64 (num + n), f, str⟩).toArray 27 := K9; clear K9; replace K3 := far2 _ _ _ (by omega) K3; replace hB := up2 _ _ (by omega) hB; clear c0 c1 c2 c3; obtain ⟨c0, c1, c2, c3⟩ := v_cells K1) | ((with_reducible refine pl_load_v (s := ⟨7, wrap64 (num + n), f, str⟩) (blk_range K1) ?_ ?_ ?_); (· rfl); (· rfl)))
  exact v_ret (s := ⟨7, wrap64 (num + n), f, str⟩) rfl rfl rfl K3 hB
set_option maxRecDepth 100000 in
set_option maxHeartbeats 2000000 in
theorem sum_wrong (num n : Int) (f : Nat) (str : ByteArray) (w : World) (hR : rightR ⟨7, num, f, str⟩ = false) (hf : f < 18446744073709551616) (hs : str.size ≤ 9223372036854775807) (hT : Tabs w) :
    Calls Tryd.prog 21 #[.agg (V.mk 7 num f str).cells.toArray, .int .i64 n] w fun e w' => e = .returned (.agg (V.cells ⟨7, num, f, str⟩).toArray) ∧ Below w.heap.size w w' := by
  have hc := Lib.hid (fun w1 (hb : Below w.heap.size w w1) => right_calls ⟨7, num, f, str⟩ w1 ⟨(show (0 : Int) ≤ 7 by decide), (show (7 : Int) ≤ 255 by decide)⟩ hf hs (Utf8Tabs_below hT hb))
  rw [hR] at hc
  rw [if_neg (by decide)] at hc
  clear hR
  go_enter Tryd.func21, Tryd.ntmps21
  go_wp2_with (first | ((with_reducible refine pl_boxw (s := ⟨7, num, f, str⟩) ?_ ?_); (· rfl); intro w1 K1 hB hz1; obtain ⟨c0, c1, c2, c3⟩ := v_cells K1) | ((with_reducible refine pl_allocw (b := w.heap.size + 1) hz1 ?_ ?_); (· rfl); intro w2 K3 far2 up2; replace K1 := far2 _ _ _ K1; replace hB := up2 _ _ (by omega) hB; clear c0 c1 c2 c3; obtain ⟨c0, c1, c2, c3⟩ := v_cells K1) | ((with_reducible refine pl_load_v (s := ⟨7, num, f, str⟩) (blk_range K1) ?_ ?_ ?_); (· rfl); (· rfl)) | ((with_reducible refine pl_storew (o := v0) (s := ⟨7, num, f, str⟩) K3 ?_ ?_ ?_ ?_); (· rfl); (· rfl); (· rfl); clear K3; intro w3 K3 far2 up2; replace K1 := far2 _ _ _ (by omega) K1; replace hB := up2 _ _ (by omega) hB; clear c0 c1 c2 c3; obtain ⟨c0, c1, c2, c3⟩ := v_cells K1) | (go_at_call 13; refine (hc.out _ hB).mono ?_; rintro e w5 ⟨rfl, hb5⟩; replace K1 := K1.below hb5 K1.lt; replace K3 := K3.below hb5 K3.lt; replace hB := hB.trans (hb5.mono hB.size); clear c0 c1 c2 c3; obtain ⟨c0, c1, c2, c3⟩ := v_cells K1))
  exact v_ret (s := ⟨7, num, f, str⟩) rfl rfl rfl K3 hB
theorem sum_calls (v : V) (n : Int) (w : World) (hk : 0 ≤ v.kind ∧ v.kind ≤ 255) (hf : v.fl < 18446744073709551616) (hs : v.str.size ≤ 9223372036854775807) (hT : Tabs w) :
    Calls Tryd.prog 21 #[.agg v.cells.toArray, .int .i64 n] w fun e w' => e = .returned (.agg (sumV v n).cells.toArray) ∧ Below w.heap.size w w' := by
  obtain ⟨kd, num, f, str⟩ := v
  unfold sumV
  by_cases h7 : kd = 7
  · subst h7
    cases hR : rightR ⟨7, num, f, str⟩
    · rw [if_neg (fun q => by cases q.2)]
      exact sum_wrong num n f str w hR hf hs hT
    · rw [if_pos ⟨rfl, rfl⟩]
      exact sum_yes num n f str w hR hf hs hT
  · rw [if_neg (fun q => h7 q.1)]
    exact sum_no kd num n f str w h7
set_option maxRecDepth 100000 in
set_option maxHeartbeats 2000000 in
theorem sumRef_no (kd num n : Int) (f : Nat) (str : ByteArray) (w : World) (h7 : kd ≠ 7) :
    Calls Tryd.prog 22 #[.agg (V.mk kd num f str).cells.toArray, .int .i64 n] w fun e w' => e = .returned (.agg (V.cells ⟨kd, num, f, str⟩).toArray) ∧ Below w.heap.size w w' := by
  have p7 : (kd == 7) = false := beq_eq_false_iff_ne.mpr h7
  clear h7
  go_enter Tryd.func22, Tryd.ntmps22
  go_wp2_with (first | ((with_reducible refine pl_boxw (s := ⟨kd, num, f, str⟩) ?_ ?_); (· rfl); intro w1 K1 hB hz1; obtain ⟨c0, c1, c2, c3⟩ := v_cells K1) | ((with_reducible refine pl_allocw (b := w.heap.size + 1) hz1 ?_ ?_); (· rfl); intro w2 K3 far2 up2; replace K1 := far2 _ _ _ K1; replace hB := up2 _ _ (by omega) hB; clear c0 c1 c2 c3; obtain ⟨c0, c1, c2, c3⟩ := v_cells K1) | ((with_reducible refine pl_load_v (s := ⟨kd, num, f, str⟩) (blk_range K1) ?_ ?_ ?_); (· rfl); (· rfl)) | ((with_reducible refine pl_storew (o := v0) (s := ⟨kd, num, f, str⟩) K3 ?_ ?_ ?_ ?_); (· rfl); (· rfl); (· rfl); clear K3; intro w3 K3 far2 up2; replace K1 := far2 _ _ _ (by omega) K1; replace hB := up2 _ _ (by omega) hB; clear c0 c1 c2 c3; obtain ⟨c0, c1, c2, c3⟩ := v_cells K1))
  exact v_ret (s := ⟨kd, num, f, str⟩) rfl rfl rfl K3 hB
set_option maxRecDepth 100000 in
set_option maxHeartbeats 2000000 in
theorem sumRef_yes (num n : Int) (f : Nat) (str : ByteArray) (w : World) (hR : rightR ⟨7, num, f, str⟩ = true) (hf : f < 18446744073709551616) (hs : str.size ≤ 9223372036854775807) :
    Calls Tryd.prog 22 #[.agg (V.mk 7 num f str).cells.toArray, .int .i64 n] w fun e w' => e = .returned (.agg (V.cells ⟨7, wrap64 (num + n), f, str⟩).toArray) ∧ Below w.heap.size w w' := by
  have hc := Lib.hid (fun w1 (hb : Below w.heap.size w w1) => right0_calls ⟨7, num, f, str⟩ w1 ⟨(show (0 : Int) ≤ 7 by decide), (show (7 : Int) ≤ 255 by decide)⟩ hf hs)
  rw [hR] at hc
  clear hR
  go_enter Tryd.func22, Tryd.ntmps22
  go_wp2_with (first | ((with_reducible refine pl_boxw (s := ⟨7, num, f, str⟩) ?_ ?_); (· rfl); intro w1 K1 hB hz1; obtain ⟨c0, c1, c2, c3⟩ := v_cells K1) | ((with_reducible refine pl_allocw (b := w.heap.size + 1) hz1 ?_ ?_); (· rfl); intro w2 K3 far2 up2; replace K1 := far2 _ _ _ K1; replace hB := up2 _ _ (by omega) hB; clear c0 c1 c2 c3; obtain ⟨c0, c1, c2, c3⟩ := v_cells K1) | ((with_reducible refine pl_load_v (s := ⟨7, num, f, str⟩) (blk_range K1) ?_ ?_ ?_); (· rfl); (· rfl)) | ((with_reducible refine pl_storew (o := v0) (s := ⟨7, wrap64 (num + n), f, str⟩) K3 ?_ ?_ ?_ ?_); (· rfl); (· rfl); (· rfl); clear K3; intro w3 K3 far2 up2; replace K1 := far2 _ _ _ (by omega) K1; replace hB := up2 _ _ (by omega) hB; clear c0 c1 c2 c3; obtain ⟨c0, c1, c2, c3⟩ := v_cells K1) | (go_at_call 56; refine (hc.out _ hB).mono ?_; rintro e w5 ⟨rfl, hb5⟩; replace K1 := K1.below hb5 K1.lt; replace K3 := K3.below hb5 K3.lt; replace hB := hB.trans (hb5.mono hB.size); clear c0 c1 c2 c3; obtain ⟨c0, c1, c2, c3⟩ := v_cells K1) | ((with_reducible refine pl_put (i := 1) (u := .int .i64 (wrap64 (num + n))) K1 (by omega) (oneI _ _) ?_ infoN (cellsI _ _) ?_ ?_ ?_); (· rfl); (· rfl); (· rfl); intro w4 K9 far2 up2; replace K1 : Blk w4 w.heap.size (V.cells ⟨7, wrap64 (num + n), f, str⟩).toArray 27 := K9; clear K9; replace K3 := far2 _ _ _ (by omega) K3; replace hB := up2 _ _ (by omega) hB; clear c0 c1 c2 c3; obtain ⟨c0, c1, c2, c3⟩ := v_cells K1) | ((with_reducible refine pl_load_v (s := ⟨7, wrap64 (num + n), f, str⟩) (blk_range K1) ?_ ?_ ?_); (· rfl); (· rfl)))
  exact v_ret (s := ⟨7, wrap64 (num + n), f, str⟩) rfl rfl rfl K3 hB
set_option maxRecDepth 100000 in
set_option maxHeartbeats 2000000 in
theorem sumRef_wrong (num n : Int) (f : Nat) (str : ByteArray) (w : World) (hR : rightR ⟨7, num, f, str⟩ = false) (hf : f < 18446744073709551616) (hs : str.size ≤ 9223372036854775807) :
    Calls Tryd.prog 22 #[.agg (V.mk 7 num f str).cells.toArray, .int .i64 n] w fun e w' => e = .returned (.agg (V.cells ⟨7, num, f, str⟩).toArray) ∧ Below w.heap.size w w' := by
  have hc := Lib.hid (fun w1 (hb : Below w.heap.size w w1) => right0_calls ⟨7, num, f, str⟩ w1 ⟨(show (0 : Int) ≤ 7 by decide), (show (7 : Int) ≤ 255 by decide)⟩ hf hs)
  rw [hR] at hc
  clear hR
  go_enter Tryd.func22, Tryd.ntmps22
  go_wp2_with (first | ((with_reducible refine pl_boxw (s := ⟨7, num, f, str⟩) ?_ ?_); (· rfl); intro w1 K1 hB hz1; obtain ⟨c0, c1, c2, c3⟩ := v_cells K1) | ((with_reducible refine pl_allocw (b := w.heap.size + 1) hz1 ?_ ?_); (· rfl); intro w2 K3 far2 up2; replace K1 := far2 _ _ _ K1; replace hB := up2 _ _ (by omega) hB; clear c0 c1 c2 c3; obtain ⟨c0, c1, c2, c3⟩ := v_cells K1) | ((with_reducible refine pl_load_v (s := ⟨7, num, f, str⟩) (blk_range K1) ?_ ?_ ?_); (· rfl); (· rfl)) | ((with_reducible refine pl_storew (o := v0) (s := ⟨7, num, f, str⟩) K3 ?_ ?_ ?_ ?_); (· rfl); (· rfl); (· rfl); clear K3; intro w3 K3 far2 up2; replace K1 := far2 _ _ _ (by omega) K1; replace hB := up2 _ _ (by omega) hB; clear c0 c1 c2 c3; obtain ⟨c0, c1, c2, c3⟩ := v_cells K1) | (go_at_call 56; refine (hc.out _ hB).mono ?_; rintro e w5 ⟨rfl, hb5⟩; replace K1 := K1.below hb5 K1.lt; replace K3 := K3.below hb5 K3.lt; replace hB := hB.trans (hb5.mono hB.size); clear c0 c1 c2 c3; obtain ⟨c0, c1, c2, c3⟩ := v_cells K1))
  exact v_ret (s := ⟨7, num, f, str⟩) rfl rfl rfl K3 hB
theorem sumRef_calls (v : V) (n : Int) (w : World) (hk : 0 ≤ v.kind ∧ v.kind ≤ 255) (hf : v.fl < 18446744073709551616) (hs : v.str.size ≤ 9223372036854775807) :
    Calls Tryd.prog 22 #[.agg v.cells.toArray, .int .i64 n] w fun e w' => e = .returned (.agg (sumV v n).cells.toArray) ∧ Below w.heap.size w w' := by
  obtain ⟨kd, num, f, str⟩ := v
  unfold sumV
  by_cases h7 : kd = 7
  · subst h7
    cases hR : rightR ⟨7, num, f, str⟩
    · rw [if_neg (fun q => by cases q.2)]
      exact sumRef_wrong num n f str w hR hf hs
    · rw [if_pos ⟨rfl, rfl⟩]
      exact sumRef_yes num n f str w hR hf hs
  · rw [if_neg (fun q => h7 q.1)]
    exact sumRef_no kd num n f str w h7
end Go.Proofs.YtodjcgkbcbaadaaDoor.Va
