/- The walks of lent, kept and Up; steps built, appended. -/
import Derived.Test.YtoddjofckbfkhaaDoorSameW
import Derived.Test.YtoddjofckbfkhaaDoorApp
namespace Go.Proofs.YtoddjofckbfkhaaDoor.Wy
open Go.RowKit Mem Ops
def st77 : St := ⟨77, ⟨#[]⟩, 0⟩
theorem el29 : ElemIs Tryd.prog 59 (.agg st0.cells.toArray) 3 32 := ⟨by kernel_rfl, by rfl, by decide, by decide⟩
theorem one_st (s : St) : ∀ u ∈ s.cells, u.oneCell' = true := by
  intro u hu; simp [St.cells] at hu; rcases hu with rfl | rfl | rfl <;> rfl
theorem one_sts (l : List St) : ∀ u ∈ l.flatMap St.cells, u.oneCell' = true := by
  intro u hu
  obtain ⟨s, _, hs⟩ := List.mem_flatMap.1 hu
  exact one_st s u hs
section
variable {ops : Array Oper} {rest : List Oper} {a : Act} {w : World} {Q : Exit → Act → World → Prop} {dst : Option Tmp} {ty : TypeId} {pos : String} {aft : Array Edge} {gd : Option (Nat × Bool)}
theorem rl_build77 : (execOp a.eval ⟨dst, .build 59 #[(0, .const (.int .u8 77))], ty, pos, aft, gd⟩).run Tryd.prog w = .ok (.value (.agg st77.cells.toArray)) w := by
  have hz := zeroIs_of_info zero29 w
  simp [execOp, Instr.build, hz, run_underlying Tryd.underlying59, Instr.fill, Value.cells, st0, St.cells, st77, Act.eval]
theorem rl_build0 : (execOp a.eval ⟨dst, .build 59 #[], ty, pos, aft, gd⟩).run Tryd.prog w = .ok (.value (.agg st0.cells.toArray)) w := by
  have hz := zeroIs_of_info zero29 w
  simp [execOp, Instr.build, hz, run_underlying Tryd.underlying59, Instr.fill, Value.cells, st0, St.cells]
theorem rl_lit1 {x : Operand} {s : St} (hx : a.eval x = .agg s.cells.toArray) :
    (execOp a.eval ⟨dst, .buildSlice 22 1 #[(0, x)], ty, pos, aft, gd⟩).run Tryd.prog w = .ok (.value (.slice (some ⟨w.heap.size, 0, none⟩) 1 1)) (w.alloc (.cells s.cells.toArray 59)) := by
  obtain ⟨i, hi, h2⟩ := Option.map_eq_some_iff.1 zero29
  simp at h2
  simp [execOp, hx, Instr.buildSlice, run_underlying Tryd.underlying22, sizeOf, typeInfo, hi, h2, zeroValue, Value.cells, Instr.fill, newRow, St.cells, st0]
  have e3 : Array.range 3 = #[0, 1, 2] := by decide
  rw [e3]
  simp
theorem pl_build77 (hw : Region.wanted ⟨dst, .build 59 #[(0, .const (.int .u8 77))], ty, pos, aft, gd⟩ (yielded ops a.tmps) = true) (h : wpList Tryd.prog ops Q rest (a.put dst (.agg st77.cells.toArray)) w) :
    wpList Tryd.prog ops Q (⟨dst, .build 59 #[(0, .const (.int .u8 77))], ty, pos, aft, gd⟩ :: rest) a w := pl_value hw rl_build77 h
theorem pl_build0 (hw : Region.wanted ⟨dst, .build 59 #[], ty, pos, aft, gd⟩ (yielded ops a.tmps) = true) (h : wpList Tryd.prog ops Q rest (a.put dst (.agg st0.cells.toArray)) w) :
    wpList Tryd.prog ops Q (⟨dst, .build 59 #[], ty, pos, aft, gd⟩ :: rest) a w := pl_value hw rl_build0 h
theorem pl_lit1 {x : Operand} (s : St) (hw : Region.wanted ⟨dst, .buildSlice 22 1 #[(0, x)], ty, pos, aft, gd⟩ (yielded ops a.tmps) = true) (hx : a.eval x = .agg s.cells.toArray)
    (h : wpList Tryd.prog ops Q rest (a.put dst (.slice (some ⟨w.heap.size, 0, none⟩) 1 1)) (w.alloc (.cells s.cells.toArray 59))) :
    wpList Tryd.prog ops Q (⟨dst, .buildSlice 22 1 #[(0, x)], ty, pos, aft, gd⟩ :: rest) a w := pl_value hw (rl_lit1 hx) h
end
/-- What lent gives. -/
def Lent (l : List St) (w : World) (e : Ending) (w' : World) : Prop :=
  ∃ g c, e = .returned (.slice (some ⟨g, 0, none⟩) l.length c) ∧ l.length + 1 ≤ c ∧ c ≤ maxLen ∧ Sts w' (some ⟨g, 0, none⟩) (l ++ [st77]) ∧ Below w.heap.size w w' ∧ w.heap.size ≤ g
theorem st_new (w1 : World) (s : St) : Row (w1.alloc (.cells s.cells.toArray 59)) (some ⟨w1.heap.size, 0, none⟩) s.cells := (Blk.new w1 s.cells.toArray 59).row 0 (fun i v hi => by rw [Nat.zero_add]; simpa using hi)
theorem flat_snoc (l : List St) (s : St) : l.flatMap St.cells ++ s.cells = (l ++ [s]).flatMap St.cells := by simp
set_option maxRecDepth 100000 in
set_option maxHeartbeats 1000000 in
theorem lent_calls (a : Option Addr) (l : List St) (n cap : Nat) (w : World) (hn : n = l.length) (hl : l.length ≤ 4000000000000) (hH : Sts w a l) :
    Calls Tryd.prog 11 #[.slice a n cap] w (Lent l w) := by
  subst hn
  have hB0 := Below.refl w.heap.size w
  have hN := World.ownsRow_nil w w.heap.size 59 3
  have q1 : (0 + l.length) * 32 ≤ 140737488355328 := by omega
  have q2 : (0 + l.length + 1) * 32 ≤ 140737488355328 := by omega
  have LF := Lib.hid (length_flat l)
  have hHr : Row w a (l.flatMap St.cells) := hH
  go_enter Tryd.func11, Tryd.ntmps11
  go_wp2_with (first | ((with_reducible refine pl_build77 ?_ ?_); (· rfl)) | ((with_reducible refine pl_lit1 st77 ?_ ?_ ?_); (· rfl); (· rfl)) | ((with_reducible refine pl_append (c := cap) w.heap.size Tryd.underlying22 el29 hN LF.out hHr (one_sts l) q1 hB0 (Nat.le_refl _) ?_ ?_ ?_ ?_); (· rfl); (· rfl); (· rfl); intro v1 w1 hO1 hB1 _ _; have hz1 := hB1.size; have hz2 : w.heap.size ≤ (w1.alloc (.cells st77.cells.toArray 59)).heap.size := (by simp; omega)) | ((with_reducible refine pl_append (c := 1) w.heap.size Tryd.underlying22 el29 (hO1.alloc _) (show st77.cells.length = 1 * 3 from rfl) (st_new w1 st77) (one_st st77) q2 (hB1.alloc hz1 _) hz2 ?_ ?_ ?_ ?_); (· rfl); (· rfl); (· rfl); intro v2 w2 hO2 hB2 _ _; rw [List.nil_append, flat_snoc] at hO2; obtain ⟨a2, c2, rfl, hc2, hm2, hR2, hg2⟩ := own_row hO2; obtain ⟨g, rfl, hg⟩ := hg2 (by omega); have q3 : (0 : Int) ≤ (l.length : Int) := (by omega); have q4 : (l.length : Int) ≤ (c2 : Int) := (by omega); clear hO1 hO2 hN))
  go_ret
  exact ⟨g, c2, rfl, by omega, hm2, hR2, hB2, hg⟩
theorem Sts.last {w : World} {g : Nat} {l : List St} {s : St} (h : Sts w (some ⟨g, 0, none⟩) (l ++ [s])) : w.rangeAt g (l.length * 3) s.cells ∧ g < w.heap.size := by
  obtain ⟨b, off, ha, hb, hc⟩ := h.addr (by simp)
  injection ha with ha
  injection ha with h1 h2
  subst h1 h2
  have := hc l.length (by simp)
  rw [Nat.zero_add] at this
  refine ⟨?_, hb⟩
  simpa using this
theorem cmpW_self (l : List St) : cmpW l l = 0 := by rw [cmpW_k]; exact ((lexL_is cmpK_is).zero _ _).2 rfl
theorem eq77 : eqSt st77 st77 = true := by rw [eqSt_k]; simp
set_option maxRecDepth 100000 in
set_option maxHeartbeats 1000000 in
theorem kept_calls (g : Nat) (a2 : Option Addr) (l : List St) (n n2 c cap2 : Nat) (w : World) (hn : n = l.length) (hn2 : n2 = l.length) (hl : l.length ≤ 4000000000000) (hc : l.length + 1 ≤ c) (hH : Sts w (some ⟨g, 0, none⟩) (l ++ [st77])) (hH2 : Sts w a2 l) :
    Calls Tryd.prog 15 #[.slice (some ⟨g, 0, none⟩) n c, .slice a2 n2 cap2] w fun e w' => e = .returned (.bool true) ∧ Below w.heap.size w w' := by
  subst hn
  subst hn2
  obtain ⟨hr, hg⟩ := hH.last
  have hs := same_calls (some ⟨g, 0, none⟩) a2 l l l.length l.length c cap2 w rfl rfl (by omega) (by omega) hH.left hH2
  rw [cmpW_self] at hs
  have HS := Lib.hid hs
  have q1 : (0 : Int) ≤ (l.length : Int) + 1 := by omega
  have q2 : (l.length : Int) + 1 ≤ (c : Int) := by omega
  have q3 : (0 : Int) ≤ (l.length : Int) := by omega
  have q4 : (l.length : Int) < (l.length : Int) + 1 := by omega
  clear hs hH
  go_enter Tryd.func15, Tryd.ntmps15
  go_wp2_with (first | (go_at_call 14; refine HS.out.mono ?_; rintro e w1 ⟨rfl, hb1⟩; have hr1 := rangeAt_below hr hb1 hg) | ((with_reducible refine pl_build77 ?_ ?_); (· rfl)) | ((with_reducible refine pl_load_st (b := g) (o := l.length * 3) hr1 ?_ ?_ ?_); (· rfl); (· rfl)) | ((with_reducible refine pl_eql_st st77 st77 eq77 ?_ ?_ ?_ ?_); (· rfl); (· rfl); (· rfl)))
  go_ret
  exact ⟨rfl, hb1⟩
end Go.Proofs.YtoddjofckbfkhaaDoor.Wy
