/- The walk of way.step. -/
import Derived.Test.YtoddjofckbfkhaaOrW
import Derived.Test.YtoddjofckbfkhaaOne
namespace Go.Proofs.Ytoddjofckbfkhaa.Wy
open Go.RowKit Mem Ops
/-- A step's cells. -/
structure St where
  kind : Int
  key : ByteArray
  num : Int
def St.cells (s : St) : List Value := [.int .u8 s.kind, .string s.key, .int .i64 s.num]
def cmpSt (s t : St) : Int := orL [cmpZ s.kind t.kind, cmpT s.key.toList t.key.toList, cmpZ s.num t.num]
attribute [local irreducible] wpQuiet wpAnyH
theorem info3 : (Try.prog.info? 3).map (fun i => (i.zero, i.size)) = some (some (.int .i64 0), 1) := by kernel_rfl
theorem rl_assign {P : Program} {a : Act} {w : World} {dst : Option Tmp} {ty : TypeId} {pos : String} {aft : Array Edge} {gd : Option (Nat × Bool)} {x : Operand} {v : Value} (hx : a.eval x = v) : (execOp a.eval ⟨dst, .assign x, ty, pos, aft, gd⟩).run P w = .ok (.value v) w := by
  simp [execOp, hx]
theorem fn17 : IsFn Try.prog 17 Try.f17 := ⟨Try.func17, by decide, rfl⟩
theorem fn18 : IsFn Try.prog 18 Try.f18 := ⟨Try.func18, by decide, rfl⟩
theorem fn19 : IsFn Try.prog 19 Try.f19 := ⟨Try.func19, by decide, rfl⟩
theorem fn20 : IsFn Try.prog 20 Try.f20 := ⟨Try.func20, by decide, rfl⟩
theorem agg0 (w : World) : (isAgg 27).run Try.prog w = .ok false w := by simp [isAgg, run_underlying Try.underlying27]
theorem agg1 (w : World) : (isAgg 9).run Try.prog w = .ok false w := by simp [isAgg, run_underlying Try.underlying9]
theorem agg2 (w : World) : (isAgg 3).run Try.prog w = .ok false w := by simp [isAgg, run_underlying Try.underlying3]
theorem fld0 : FieldIs Try.prog 29 0 0 := fieldIs (n := 0) Try.underlying29 rfl (by kernel_rfl) rfl
theorem fld1 : FieldIs Try.prog 29 1 1 := fieldIs (n := 0) Try.underlying29 rfl (by kernel_rfl) rfl
theorem fld2 : FieldIs Try.prog 29 2 2 := fieldIs (n := 0) Try.underlying29 rfl (by kernel_rfl) rfl

set_option maxRecDepth 100000 in
set_option maxHeartbeats 2000000 in
theorem step_calls (s t : St) (w : World) : Calls Try.prog 15 #[.agg s.cells.toArray, .agg t.cells.toArray] w fun e w' => e = .returned (.int .i64 (cmpSt s t)) ∧ Below w.heap.size w w' := by
  have KA := (Blk.new w s.cells.toArray 29).alloc (.cells t.cells.toArray 29)
  have KB := Blk.new (w.alloc (.cells s.cells.toArray 29)) t.cells.toArray 29
  have eB : (w.alloc (.cells s.cells.toArray 29)).heap.size = w.heap.size + 1 := by simp
  rw [eB] at KB
  have hbel := ((Below.refl w.heap.size w).alloc (Nat.le_refl _) (.cells s.cells.toArray 29)).alloc (by simp) (.cells t.cells.toArray 29)
  have lA := KA.lt
  have lB := KB.lt
  go_enter Try.func15, Try.ntmps15
  go_wp2
  generalize hW1 : ((w.alloc (.cells s.cells.toArray 29)).alloc (.cells t.cells.toArray 29)) = W1 at *
  refine wp_region_held (S := Ext W1) (by kernel_rfl) ?_
  have hg0 := Ext.drawn W1
  have cA0 := fun w' (hw' : Ext W1 w') => ((KA.below hw' lA).cell 0).trans (by rfl : s.cells.toArray[0]? = some (Value.int .u8 s.kind))
  have cA1 := fun w' (hw' : Ext W1 w') => ((KA.below hw' lA).cell 1).trans (by rfl : s.cells.toArray[1]? = some (Value.string s.key))
  have cA2 := fun w' (hw' : Ext W1 w') => ((KA.below hw' lA).cell 2).trans (by rfl : s.cells.toArray[2]? = some (Value.int .i64 s.num))
  have cB0 := fun w' (hw' : Ext W1 w') => ((KB.below hw' lB).cell 0).trans (by rfl : t.cells.toArray[0]? = some (Value.int .u8 t.kind))
  have cB1 := fun w' (hw' : Ext W1 w') => ((KB.below hw' lB).cell 1).trans (by rfl : t.cells.toArray[1]? = some (Value.string t.key))
  have cB2 := fun w' (hw' : Ext W1 w') => ((KB.below hw' lB).cell 2).trans (by rfl : t.cells.toArray[2]? = some (Value.int .i64 t.num))
  refine ah_take (o := ⟨some 5, _, _, _, _, _⟩) 0 rfl (by kernel_rfl) (by kernel_rfl) (by kernel_rfl) (fun _ _ _ h => h) (by kernel_rfl) (fun w' hw' => rl_field (b := w.heap.size) (o := 0) fld0 (by kernel_rfl)) hg0 ?_
  refine ah_take (o := ⟨some 6, _, _, _, _, _⟩) 1 rfl (by kernel_rfl) (by kernel_rfl) (by kernel_rfl) (fun _ _ _ h => h) (by kernel_rfl) (fun w' hw' => rl_load1 (b := w.heap.size) (o := 0 + 0) agg0 (by kernel_rfl) (cA0 w' hw')) hg0 ?_
  refine ah_take (o := ⟨some 7, _, _, _, _, _⟩) 2 rfl (by kernel_rfl) (by kernel_rfl) (by kernel_rfl) (fun _ _ _ h => h) (by kernel_rfl) (fun w' hw' => rl_field (b := (w.heap.size + 1)) (o := 0) fld0 (by kernel_rfl)) hg0 ?_
  refine ah_take (o := ⟨some 8, _, _, _, _, _⟩) 3 rfl (by kernel_rfl) (by kernel_rfl) (by kernel_rfl) (fun _ _ _ h => h) (by kernel_rfl) (fun w' hw' => rl_load1 (b := (w.heap.size + 1)) (o := 0 + 0) agg0 (by kernel_rfl) (cB0 w' hw')) hg0 ?_
  refine ah_take (o := ⟨some 10, _, _, _, _, _⟩) 5 rfl (by kernel_rfl) (by kernel_rfl) (by kernel_rfl) (fun _ _ _ h => h) (by kernel_rfl) (fun w' hw' => rl_field (b := w.heap.size) (o := 0) fld1 (by kernel_rfl)) hg0 ?_
  refine ah_take (o := ⟨some 11, _, _, _, _, _⟩) 6 rfl (by kernel_rfl) (by kernel_rfl) (by kernel_rfl) (fun _ _ _ h => h) (by kernel_rfl) (fun w' hw' => rl_load1 (b := w.heap.size) (o := 0 + 1) agg1 (by kernel_rfl) (cA1 w' hw')) hg0 ?_
  refine ah_take (o := ⟨some 12, _, _, _, _, _⟩) 7 rfl (by kernel_rfl) (by kernel_rfl) (by kernel_rfl) (fun _ _ _ h => h) (by kernel_rfl) (fun w' hw' => rl_field (b := (w.heap.size + 1)) (o := 0) fld1 (by kernel_rfl)) hg0 ?_
  refine ah_take (o := ⟨some 13, _, _, _, _, _⟩) 8 rfl (by kernel_rfl) (by kernel_rfl) (by kernel_rfl) (fun _ _ _ h => h) (by kernel_rfl) (fun w' hw' => rl_load1 (b := (w.heap.size + 1)) (o := 0 + 1) agg1 (by kernel_rfl) (cB1 w' hw')) hg0 ?_
  refine ah_take (o := ⟨some 15, _, _, _, _, _⟩) 10 rfl (by kernel_rfl) (by kernel_rfl) (by kernel_rfl) (fun _ _ _ h => h) (by kernel_rfl) (fun w' hw' => rl_field (b := w.heap.size) (o := 0) fld2 (by kernel_rfl)) hg0 ?_
  refine ah_take (o := ⟨some 16, _, _, _, _, _⟩) 11 rfl (by kernel_rfl) (by kernel_rfl) (by kernel_rfl) (fun _ _ _ h => h) (by kernel_rfl) (fun w' hw' => rl_load1 (b := w.heap.size) (o := 0 + 2) agg2 (by kernel_rfl) (cA2 w' hw')) hg0 ?_
  refine ah_take (o := ⟨some 17, _, _, _, _, _⟩) 12 rfl (by kernel_rfl) (by kernel_rfl) (by kernel_rfl) (fun _ _ _ h => h) (by kernel_rfl) (fun w' hw' => rl_field (b := (w.heap.size + 1)) (o := 0) fld2 (by kernel_rfl)) hg0 ?_
  refine ah_take (o := ⟨some 18, _, _, _, _, _⟩) 13 rfl (by kernel_rfl) (by kernel_rfl) (by kernel_rfl) (fun _ _ _ h => h) (by kernel_rfl) (fun w' hw' => rl_load1 (b := (w.heap.size + 1)) (o := 0 + 2) agg2 (by kernel_rfl) (cB2 w' hw')) hg0 ?_
  refine ah_call (v := (.int .i64 (cmpZ s.kind t.kind))) (w' := fun w' => { W1 with drawn := W1.drawn + 1 } = w') 4 (by kernel_rfl) rfl fn18 (by kernel_rfl) (vs := #[.int .u8 s.kind, .int .u8 t.kind]) (by kernel_rfl) (cmpK_calls _ _ _) (fun w' h => h ▸ hg0) ?_
  rintro _ rfl
  refine ah_call (v := (.int .i64 (cmpT s.key.toList t.key.toList))) (w' := fun w' => { W1 with drawn := W1.drawn + 1 } = w') 9 (by kernel_rfl) rfl fn19 (by kernel_rfl) (vs := #[.string s.key, .string t.key]) (by kernel_rfl) (cmpS_calls _ _ _) (fun w' h => h ▸ hg0) ?_
  rintro _ rfl
  refine ah_call (v := (.int .i64 (cmpZ s.num t.num))) (w' := fun w' => { W1 with drawn := W1.drawn + 1 } = w') 14 (by kernel_rfl) rfl fn20 (by kernel_rfl) (vs := #[.int .i64 s.num, .int .i64 t.num]) (by kernel_rfl) (cmpN_calls _ _ _) (fun w' h => h ▸ hg0) ?_
  rintro _ rfl
  have KS := Blk.new ({ W1 with drawn := W1.drawn + 1 } : World) (ints [cmpZ s.kind t.kind, cmpT s.key.toList t.key.toList, cmpZ s.num t.num]).toArray 3
  have hg1 := hg0.alloc hg0.size (.cells (ints [cmpZ s.kind t.kind, cmpT s.key.toList t.key.toList, cmpZ s.num t.num]).toArray 3)
  refine ah_one (o := ⟨some 20, _, _, _, _, _⟩) (v := .slice (some ⟨W1.heap.size, 0, none⟩) 3 3) 15 (by kernel_rfl) rfl (by kernel_rfl) (rl_build3 (a1 := cmpZ s.kind t.kind) (a2 := cmpT s.key.toList t.key.toList) (a3 := cmpZ s.num t.num) Try.underlying36 info3 (by kernel_rfl) (by kernel_rfl) (by kernel_rfl)) hg1 ?_
  have hor := or_calls (some ⟨W1.heap.size, 0, none⟩) [cmpZ s.kind t.kind, cmpT s.key.toList t.key.toList, cmpZ s.num t.num] 3 3 _ rfl (by simp) (KS.row 0 (fun i v h => by simpa using h))
  refine ah_call (v := .int .i64 (cmpSt s t)) (w' := fun w' => (({ W1 with drawn := W1.drawn + 1 } : World).alloc (.cells (ints [cmpZ s.kind t.kind, cmpT s.key.toList t.key.toList, cmpZ s.num t.num]).toArray 3)) = w') 16 (by kernel_rfl) rfl fn17 (by kernel_rfl) (vs := #[.slice (some ⟨W1.heap.size, 0, none⟩) 3 3]) (by kernel_rfl) hor (fun w' h => h ▸ hg1) ?_
  rintro _ rfl
  refine ah_one (o := ⟨some 4, _, _, _, _, _⟩) (v := .int .i64 (cmpSt s t)) 17 (by kernel_rfl) rfl (by kernel_rfl) (rl_assign (by kernel_rfl)) hg1 ?_
  refine wpAnyH_done (by kernel_rfl) ?_ _
  simp only [Act.put, List.setIfInBounds_toArray, List.set_cons_succ, List.set_cons_zero]
  go_wp2_with fail
  go_ret
  exact ⟨rfl, hbel.trans (hg1.mono (by omega))⟩
end Go.Proofs.Ytoddjofckbfkhaa.Wy
