/- The walk of value.Right. -/
import Derived.Test.YtodjcgkbcbaadaaDoorVa
import Derived.Test.YtodjcgkbcbaadaaDoorFlW
import Derived.Test.YtodjcgkbcbaadaaDoorUtf
import Derived.Test.YtodjcgkbcbaadaaDoorShelf
set_option linter.unusedVariables false
namespace Go.Proofs.YtodjcgkbcbaadaaDoor.Va
open Go.RowKit Mem Ops Ut Fl
attribute [local irreducible] wpQuiet wpAnyH
section
variable {ops : Array Oper} {rest : List Oper} {a : Act} {w : World} {dst : Option Tmp} {ty : TypeId} {pos : String} {aft : Array Edge} {gd : Option (Nat × Bool)}
theorem pl_put {Q : Exit → Act → World → Prop} {t : TypeId} {x y : Operand} {b i : Nat} {s : V} {T : TypeId} {u : Value} (hb : Blk w b s.cells.toArray T) (hi : i < 4) (hu : u.oneCell' = true) (hw : Region.wanted ⟨dst, .store t x y, ty, pos, aft, gd⟩ (yielded ops a.tmps) = true)
    (hz : (Tryd.prog.info? t).map (·.size) = some 1) (hc1 : u.cells = #[u]) (ex : a.eval x = .pointer (some ⟨b, i, none⟩)) (ey : a.eval y = u)
    (h : ∀ w2, Blk w2 b (s.cells.toArray.setIfInBounds i u) T → (∀ (b2 : Nat) (cs2 : Array Value) (T2 : TypeId), b2 ≠ b → Blk w b2 cs2 T2 → Blk w2 b2 cs2 T2) → (∀ (B : Nat) (w0 : World), B ≤ b → Below B w0 w → Below B w0 w2) → wpList Tryd.prog ops Q rest (a.put dst undef) w2) :
    wpList Tryd.prog ops Q (⟨dst, .store t x y, ty, pos, aft, gd⟩ :: rest) a w :=
  pl_unit hw (by
    have hc : w.cell? ⟨b, i, none⟩ = some (s.cells.toArray[i]'hi) := by rw [hb.cell i]; exact Array.getElem?_eq_getElem hi
    have hf := hb.frozen i
    have hr := run_store Tryd.prog w ⟨b, i, none⟩ u .plain hu
    simp only [hc, hf] at hr
    have hs : (sizeOf t).run Tryd.prog w = .ok 1 w := by
      cases hq : Tryd.prog.info? t with
      | none => simp [hq] at hz
      | some inf => have h1 : inf.size = 1 := by simpa [hq] using hz
                    simp [sizeOf, typeInfo, hq, h1]
    simp [execOp, ex, ey, Instr.storeAt, Instr.sureAddr, storeVar, hs, hc1, storeCells, Addr.add, hr]) (h (w.setCell ⟨b, i, none⟩ u) (hb.set i u) (fun _ _ _ hne k => k.far hne u) (fun _ _ hB k => k.setCell hB u))
end
abbrev Tabs (w : World) : Prop := Lib.Utf8Tabs 2 3 w
theorem aggK (w : World) : (isAgg 24).run Tryd.prog w = .ok false w := by simp [isAgg, run_underlying Tryd.underlying24]
theorem aggN (w : World) : (isAgg 2).run Tryd.prog w = .ok false w := by simp [isAgg, run_underlying Tryd.underlying2]
theorem aggF (w : World) : (isAgg 25).run Tryd.prog w = .ok false w := by simp [isAgg, run_underlying Tryd.underlying25]
theorem aggS (w : World) : (isAgg 9).run Tryd.prog w = .ok false w := by simp [isAgg, run_underlying Tryd.underlying9]
def sb (f : Nat) : Bool := decide (9223372036854775808 ≤ f)
theorem fnSign : IsFn Tryd.prog 55 Tryd.f55 := ⟨Tryd.func55, by decide, rfl⟩
theorem sign_calls (b : Nat) (hb : b < 18446744073709551616) (w : World) : Calls Tryd.prog 55 #[.float .f64 b] w fun e w' => e = .returned (.bool (sb b)) ∧ w = w' := signbit_calls b hb w

theorem feq_word (x y : Nat) (hx : x < 18446744073709551616) (hy : y < 18446744073709551616) : feq x y = (!nan x && (!nan y && (x == y || (x % 9223372036854775808 == 0 && y % 9223372036854775808 == 0)))) := by
  unfold feq
  cases h1 : nan x
  · cases h2 : nan y
    · rw [order_key x y h1 h2, cmp_def]
      have kx : key x = if 9223372036854775808 ≤ x then -((x % 9223372036854775808 : Nat) : Int) else ((x % 9223372036854775808 : Nat) : Int) := by
        unfold key neg rung
        by_cases q : 9223372036854775808 ≤ x
        · rw [show x / 9223372036854775808 = 1 from by omega, if_pos q]; rfl
        · rw [show x / 9223372036854775808 = 0 from by omega, if_neg q]; rfl
      have ky : key y = if 9223372036854775808 ≤ y then -((y % 9223372036854775808 : Nat) : Int) else ((y % 9223372036854775808 : Nat) : Int) := by
        unfold key neg rung
        by_cases q : 9223372036854775808 ≤ y
        · rw [show y / 9223372036854775808 = 1 from by omega, if_pos q]; rfl
        · rw [show y / 9223372036854775808 = 0 from by omega, if_neg q]; rfl
      have e : key x = key y ↔ (x = y ∨ (x % 9223372036854775808 = 0 ∧ y % 9223372036854775808 = 0)) := by
        rw [kx, ky]
        split <;> split <;> omega
      have e2 : (x == y || (x % 9223372036854775808 == 0 && y % 9223372036854775808 == 0)) = decide (key x = key y) := by
        rw [Bool.eq_iff_iff]
        simp only [Bool.or_eq_true, Bool.and_eq_true, beq_iff_eq, decide_eq_true_eq]
        exact e.symm
      rw [e2]
      by_cases q : key x < key y
      · rw [if_pos q, decide_eq_false (by omega)]; rfl
      · rw [if_neg q]
        by_cases q2 : key x = key y
        · rw [if_pos q2, decide_eq_true q2]; rfl
        · rw [if_neg q2, decide_eq_false q2]; rfl
    · rw [order_nan x y (.inr h2)]; simp
  · rw [order_nan x y (.inl h1)]; simp
theorem feq_zero (f : Nat) (hf : f < 18446744073709551616) : (feq 0 f && (sb 0 == sb f)) = (f == 0) := by
  rw [feq_word 0 f (by omega) hf, show nan 0 = false from rfl]
  unfold sb
  by_cases h0 : f = 0
  · subst h0; rfl
  · rw [beq_eq_false_iff_ne.mpr h0]
    by_cases q : 9223372036854775808 ≤ f
    · rw [decide_eq_true q, show decide (9223372036854775808 ≤ 0) = false from rfl]; simp
    · have e1 : (f % 9223372036854775808 == 0) = false := beq_eq_false_iff_ne.mpr (by omega)
      have e2 : (0 == f) = false := beq_eq_false_iff_ne.mpr (by omega)
      rw [e1, e2]; simp
theorem nan_word (f : Nat) : nan f = decide (9218868437227405312 < f % 9223372036854775808) := rfl
/-- A float's own test: no infinity, no NaN, no zero below. -/
theorem fl_right (f : Nat) (hf : f < 18446744073709551616) : (!inf f && (!nan f && ((!feq f 0) || !sb f))) = (!(f / 4503599627370496 % 2048 == 2047) && !(f == 9223372036854775808)) := by
  rw [feq_word f 0 hf (by omega), show nan 0 = false from rfl, nan_word]
  unfold inf sb
  rcases Nat.lt_trichotomy (f % 9223372036854775808) 9218868437227405312 with h | h | h
  · have e1 : (f % 9223372036854775808 == 9218868437227405312) = false := beq_eq_false_iff_ne.mpr (by omega)
    have e2 : decide (9218868437227405312 < f % 9223372036854775808) = false := decide_eq_false (by omega)
    have e3 : (f / 4503599627370496 % 2048 == 2047) = false := beq_eq_false_iff_ne.mpr (by omega)
    rw [e1, e2, e3]
    by_cases h0 : f = 0
    · subst h0; rfl
    · by_cases h1 : f = 9223372036854775808
      · subst h1; rfl
      · have e4 : (f == 0) = false := beq_eq_false_iff_ne.mpr h0
        have e5 : (f == 9223372036854775808) = false := beq_eq_false_iff_ne.mpr h1
        have e6 : (f % 9223372036854775808 == 0) = false := beq_eq_false_iff_ne.mpr (by omega)
        rw [e4, e5, e6]; rfl
  · have e1 : (f % 9223372036854775808 == 9218868437227405312) = true := by rw [h]; rfl
    have e3 : (f / 4503599627370496 % 2048 == 2047) = true := beq_iff_eq.mpr (by omega)
    rw [e1, e3]; rfl
  · have e1 : (f % 9223372036854775808 == 9218868437227405312) = false := beq_eq_false_iff_ne.mpr (by omega)
    have e2 : decide (9218868437227405312 < f % 9223372036854775808) = true := decide_eq_true h
    have e3 : (f / 4503599627370496 % 2048 == 2047) = true := beq_iff_eq.mpr (by omega)
    rw [e1, e2, e3]; rfl
theorem feq_self (f : Nat) (hf : f < 18446744073709551616) : feq f f = !nan f := by
  rw [feq_word f f hf hf]; simp

theorem toList_empty : (⟨#[]⟩ : ByteArray).toList = [] := by rw [ByteArray.toList_eq]
theorem nil_beq (l : List UInt8) : (([] : List UInt8) == l) = l.isEmpty := by cases l <;> rfl
theorem beq_flip (m n : Int) : (m == n) = (n == m) := by rw [Bool.eq_iff_iff, beq_iff_eq, beq_iff_eq]; exact eq_comm
theorem eqp_plain (k n m : Int) (f : Nat) (hf : f < 18446744073709551616) (str : ByteArray) : (eqV ⟨k, n, 0, ⟨#[]⟩⟩ ⟨k, m, f, str⟩ && (sb 0 == sb f)) = (m == n && (f == 0 && str.toList.isEmpty)) := by
  unfold eqV
  simp only [beq_self_eq_true, Bool.true_and, toList_empty, nil_beq]
  rw [beq_flip n m, ← feq_zero f hf]
  cases (m == n) <;> cases feq 0 f <;> cases (sb 0 == sb f) <;> cases str.toList.isEmpty <;> rfl
theorem eqp_str (k m : Int) (f : Nat) (hf : f < 18446744073709551616) (str : ByteArray) : (eqV ⟨k, 0, 0, str⟩ ⟨k, m, f, str⟩ && (sb 0 == sb f)) = (m == 0 && f == 0) := by
  unfold eqV
  simp only [beq_self_eq_true, Bool.true_and, Bool.and_true]
  rw [beq_flip 0 m, ← feq_zero f hf]
  cases (m == 0) <;> cases feq 0 f <;> cases (sb 0 == sb f) <;> rfl
theorem eqp_fl (k m : Int) (f : Nat) (hf : f < 18446744073709551616) (str : ByteArray) : (eqV ⟨k, 0, f, ⟨#[]⟩⟩ ⟨k, m, f, str⟩ && (sb f == sb f)) = (m == 0 && (!nan f && str.toList.isEmpty)) := by
  unfold eqV
  simp only [beq_self_eq_true, Bool.true_and, Bool.and_true, toList_empty, nil_beq]
  rw [beq_flip 0 m, feq_self f hf]
theorem v_cells {w : World} {b : Nat} {kd num : Int} {f : Nat} {str : ByteArray} {T : TypeId} (h : Blk w b (V.mk kd num f str).cells.toArray T) : w.cell? ⟨b, 0, none⟩ = some (.int .u8 kd) ∧ w.cell? ⟨b, 1, none⟩ = some (.int .i64 num) ∧ w.cell? ⟨b, 2, none⟩ = some (.float .f64 f) ∧ w.cell? ⟨b, 3, none⟩ = some (.string str) :=
  ⟨h.cell 0, h.cell 1, h.cell 2, h.cell 3⟩
section
variable {ops : Array Oper} {rest : List Oper} {a : Act} {w : World} {dst : Option Tmp} {ty : TypeId} {pos : String} {aft : Array Edge} {gd : Option (Nat × Bool)}
theorem pl_boxw {Q : Exit → Act → World → Prop} {x : Operand} {s : V} (hx : a.eval x = .agg s.cells.toArray) (h : ∀ w1, Blk w1 w.heap.size s.cells.toArray 27 → Below w.heap.size w w1 → w1.heap.size = w.heap.size + 1 → wpList Tryd.prog ops Q rest (a.put dst (.pointer (some ⟨w.heap.size, 0, none⟩))) w1) :
    wpList Tryd.prog ops Q (⟨dst, .box 27 x, ty, pos, aft, none⟩ :: rest) a w := pl_box_v hx (h _ (Blk.new w _ _) ((Below.refl _ _).alloc (Nat.le_refl _) _) (by simp))
theorem pl_allocw {Q : Exit → Act → World → Prop} {b : Nat} (hz : w.heap.size = b) (hw : Region.wanted ⟨dst, .alloc 27, ty, pos, aft, gd⟩ (yielded ops a.tmps) = true)
    (h : ∀ w2, Blk w2 b v0.cells.toArray 27 → (∀ (b2 : Nat) (cs2 : Array Value) (T2 : TypeId), Blk w b2 cs2 T2 → Blk w2 b2 cs2 T2) → (∀ (B : Nat) (w0 : World), B ≤ b → Below B w0 w → Below B w0 w2) → wpList Tryd.prog ops Q rest (a.put dst (.pointer (some ⟨b, 0, none⟩))) w2) : wpList Tryd.prog ops Q (⟨dst, .alloc 27, ty, pos, aft, gd⟩ :: rest) a w := by
  subst hz
  exact pl_alloc_v hw (h _ (Blk.new w _ _) (fun _ _ _ k => k.alloc _) (fun _ _ hB k => k.alloc hB _))
theorem pl_storew {Q : Exit → Act → World → Prop} {x y : Operand} {b : Nat} {o s : V} {T : TypeId} (hb : Blk w b o.cells.toArray T) (hw : Region.wanted ⟨dst, .store 27 x y, ty, pos, aft, gd⟩ (yielded ops a.tmps) = true)
    (ex : a.eval x = .pointer (some ⟨b, 0, none⟩)) (ey : a.eval y = .agg s.cells.toArray) (h : ∀ w2, Blk w2 b s.cells.toArray T → (∀ (b2 : Nat) (cs2 : Array Value) (T2 : TypeId), b2 ≠ b → Blk w b2 cs2 T2 → Blk w2 b2 cs2 T2) → (∀ (B : Nat) (w0 : World), B ≤ b → Below B w0 w → Below B w0 w2) → wpList Tryd.prog ops Q rest (a.put dst undef) w2) :
    wpList Tryd.prog ops Q (⟨dst, .store 27 x y, ty, pos, aft, gd⟩ :: rest) a w :=
  pl_store_v hb hw ex ey (h _ (hb.setRow _) (fun _ _ _ hne k => k.setRow_far hne _) (fun _ _ hB k => below_setRow k hB _))
end
theorem oneI (k : IntKind) (n : Int) : (Value.int k n).oneCell' = true := rfl
theorem oneF (f : Nat) : (Value.float .f64 f).oneCell' = true := rfl
theorem oneS (s : ByteArray) : (Value.string s).oneCell' = true := rfl
theorem cellsI (k : IntKind) (n : Int) : (Value.int k n).cells = #[.int k n] := rfl
theorem cellsF (f : Nat) : (Value.float .f64 f).cells = #[.float .f64 f] := rfl
theorem cellsS (s : ByteArray) : (Value.string s).cells = #[.string s] := rfl
theorem infoN : (Tryd.prog.info? 2).map (·.size) = some 1 := by kernel_rfl
theorem infoF : (Tryd.prog.info? 25).map (·.size) = some 1 := by kernel_rfl
theorem infoS : (Tryd.prog.info? 9).map (·.size) = some 1 := by kernel_rfl

theorem right_float (num : Int) (f : Nat) (str : ByteArray) : rightR ⟨3, num, f, str⟩ = (num == 0 && (str.toList.isEmpty && (!(f / 4503599627370496 % 2048 == 2047) && !(f == 9223372036854775808)))) := by
  unfold rightR
  rw [if_neg (by simp), if_neg (by simp), if_neg (by simp), if_pos rfl]
theorem right_big (kd num : Int) (f : Nat) (str : ByteArray) (h : ¬ kd ≤ 11) : rightR ⟨kd, num, f, str⟩ = false := by
  have n0 : kd ≠ 0 := by omega
  have n1 : kd ≠ 1 := by omega
  have n2 : kd ≠ 2 := by omega
  have n3 : kd ≠ 3 := by omega
  have n4 : kd ≠ 4 := by omega
  have n5 : kd ≠ 5 := by omega
  have n6 : kd ≠ 6 := by omega
  have n7 : kd ≠ 7 := by omega
  have n8 : kd ≠ 8 := by omega
  have n9 : kd ≠ 9 := by omega
  have n10 : kd ≠ 10 := by omega
  have n11 : kd ≠ 11 := by omega
  simp [rightR, n0, n1, n2, n3, n4, n5, n6, n7, n8, n9, n10, n11]
set_option maxRecDepth 100000 in
set_option maxHeartbeats 8000000 in
theorem r_int (num : Int) (f : Nat) (str : ByteArray) (w : World) (hf : f < 18446744073709551616) (hs : str.size ≤ 9223372036854775807) :
    Calls Tryd.prog 13 #[.agg (V.mk 2 num f str).cells.toArray] w fun e w' => e = .returned (.int .i64 (if rightR ⟨2, num, f, str⟩ = true then 0 else 30)) ∧ Below w.heap.size w w' := by
  obtain ⟨N, hN⟩ : ∃ N, (if rightR ⟨2, num, f, str⟩ = true then (0 : Int) else 30) = N := ⟨_, rfl⟩
  rw [hN]
  obtain ⟨R, hR⟩ : ∃ R, rightR ⟨2, num, f, str⟩ = R := ⟨_, rfl⟩
  have HN := Lib.hid hN
  rw [hR] at HN
  clear hN
  have HR : Hid ((eqV ⟨2, num, 0, ⟨#[]⟩⟩ ⟨2, num, f, str⟩ && (sb 0 == sb f)) = R) := Lib.hid (by rw [← hR, eqp_plain _ _ _ _ hf]; simp [rightR])
  clear hR
  go_enter Tryd.func13, Tryd.ntmps13
  go_wp2_with (first | ((with_reducible refine pl_boxw (s := ⟨2, num, f, str⟩) ?_ ?_); (· rfl); intro w1 K1 hB hz1; obtain ⟨c0, c1, c2, c3⟩ := v_cells K1) | ((with_reducible refine pl_build_k (kd := 2) ?_ ?_ ?_); (· rfl); (· rfl)) | ((with_reducible refine pl_allocw (b := w.heap.size + 1) hz1 ?_ ?_); (· rfl); intro w2 K3 far2 up2; replace K1 := far2 _ _ _ K1; replace hB := up2 _ _ (by omega) hB; clear c0 c1 c2 c3; obtain ⟨c0, c1, c2, c3⟩ := v_cells K1) | ((with_reducible refine pl_storew (o := v0) (s := ⟨2, 0, 0, ⟨#[]⟩⟩) K3 ?_ ?_ ?_ ?_); (· rfl); (· rfl); (· rfl); clear K3; intro w3 K3 far2 up2; replace K1 := far2 _ _ _ (by omega) K1; replace hB := up2 _ _ (by omega) hB; clear c0 c1 c2 c3; obtain ⟨c0, c1, c2, c3⟩ := v_cells K1) | ((with_reducible refine pl_put (i := 1) (u := .int .i64 num) K3 (by omega) (oneI _ _) ?_ infoN (cellsI _ _) ?_ ?_ ?_); (· rfl); (· rfl); (· rfl); clear K3; intro w4 K3 far2 up2; replace K3 : Blk w4 (w.heap.size + 1) (V.cells ⟨2, num, 0, ⟨#[]⟩⟩).toArray 27 := K3; replace K1 := far2 _ _ _ (by omega) K1; replace hB := up2 _ _ (by omega) hB; clear c0 c1 c2 c3; obtain ⟨c0, c1, c2, c3⟩ := v_cells K1))
  obtain ⟨E, hE⟩ : ∃ E, eqV (V.mk 2 num 0 ⟨#[]⟩) ⟨2, num, f, str⟩ = E := ⟨_, rfl⟩
  have HR := HR
  rw [hE] at HR
  cases E
  · refine region_grown (by kernel_rfl) (by kernel_rfl) ?_
    refine qs_move (v := (.bool true)) (by kernel_rfl) (by kernel_rfl) ?_
    refine qs_not (b := true) (by kernel_rfl) (by kernel_rfl) ?_
    refine qs_move (v := (.bool false)) (by kernel_rfl) (by kernel_rfl) ?_
    simp only [Act.put, List.setIfInBounds_toArray, List.set_cons_succ, List.set_cons_zero]
    refine qs_load_v (b := w.heap.size + 1) (s := (V.mk 2 num 0 ⟨#[]⟩)) K3 (by kernel_rfl) (by kernel_rfl) ?_
    refine qs_load_v (b := w.heap.size) (s := ⟨2, num, f, str⟩) K1 (by kernel_rfl) (by kernel_rfl) ?_
    refine qs_neq_v (r := true) (V.mk 2 num 0 ⟨#[]⟩) ⟨2, num, f, str⟩ (by rw [hE]; rfl) (by kernel_rfl) (by kernel_rfl) (by kernel_rfl) ?_
    simp only [Act.put, List.setIfInBounds_toArray, List.set_cons_succ, List.set_cons_zero]
    refine qs_pick (b := false) (v := (.bool true)) (by kernel_rfl) (by kernel_rfl) (by kernel_rfl) ?_
    refine qs_move (v := (.bool true)) (by kernel_rfl) (by kernel_rfl) ?_
    refine qs_skip (by kernel_rfl) ?_
    simp only [Act.put, List.setIfInBounds_toArray, List.set_cons_succ, List.set_cons_zero]
    refine qs_skip (by kernel_rfl) ?_
    refine qs_skip (by kernel_rfl) ?_
    refine qs_skip (by kernel_rfl) ?_
    simp only [Act.put, List.setIfInBounds_toArray, List.set_cons_succ, List.set_cons_zero]
    refine qs_skip (by kernel_rfl) ?_
    refine qs_skip (by kernel_rfl) ?_
    refine qs_skip (by kernel_rfl) ?_
    simp only [Act.put, List.setIfInBounds_toArray, List.set_cons_succ, List.set_cons_zero]
    refine qs_pick (b := true) (v := (.bool true)) (by kernel_rfl) (by kernel_rfl) (by kernel_rfl) ?_
    refine wpQuiet_nil ?_
    intro wq hwq
    simp only [Act.put, Exit.then, List.setIfInBounds_toArray, List.set_cons_succ, List.set_cons_zero]
    go_wp2_with fail
    go_ret
    rw [← HN.out, ← HR.out]
    exact ⟨rfl, hB.trans (hwq.mono hB.size)⟩
  · refine region_grown (by kernel_rfl) (by kernel_rfl) ?_
    refine qs_move (v := (.bool true)) (by kernel_rfl) (by kernel_rfl) ?_
    refine qs_not (b := true) (by kernel_rfl) (by kernel_rfl) ?_
    refine qs_move (v := (.bool false)) (by kernel_rfl) (by kernel_rfl) ?_
    simp only [Act.put, List.setIfInBounds_toArray, List.set_cons_succ, List.set_cons_zero]
    refine qs_load_v (b := w.heap.size + 1) (s := (V.mk 2 num 0 ⟨#[]⟩)) K3 (by kernel_rfl) (by kernel_rfl) ?_
    refine qs_load_v (b := w.heap.size) (s := ⟨2, num, f, str⟩) K1 (by kernel_rfl) (by kernel_rfl) ?_
    refine qs_neq_v (r := false) (V.mk 2 num 0 ⟨#[]⟩) ⟨2, num, f, str⟩ (by rw [hE]; rfl) (by kernel_rfl) (by kernel_rfl) (by kernel_rfl) ?_
    simp only [Act.put, List.setIfInBounds_toArray, List.set_cons_succ, List.set_cons_zero]
    refine qs_pick (b := false) (v := (.bool false)) (by kernel_rfl) (by kernel_rfl) (by kernel_rfl) ?_
    refine qs_move (v := (.bool false)) (by kernel_rfl) (by kernel_rfl) ?_
    refine qs_field (b := w.heap.size + 1) (o := 0) (off := 2) fld2 (by kernel_rfl) (by kernel_rfl) ?_
    simp only [Act.put, List.setIfInBounds_toArray, List.set_cons_succ, List.set_cons_zero]
    refine qs_load_cell (b := w.heap.size + 1) (o := 2) (u := .float .f64 (0)) K3 rfl (by kernel_rfl) aggF (by kernel_rfl) ?_
    refine qs_call (v := .bool (sb (0))) fnSign (by kernel_rfl) (vs := #[.float .f64 (0)]) (by kernel_rfl) (fun w1 hw1 => (sign_calls (0) (by omega) w1).mono fun _ _ ⟨he, hb⟩ => ⟨he, hb ▸ hw1⟩) ?_
    refine qs_field (b := w.heap.size) (o := 0) (off := 2) fld2 (by kernel_rfl) (by kernel_rfl) ?_
    simp only [Act.put, List.setIfInBounds_toArray, List.set_cons_succ, List.set_cons_zero]
    refine qs_load_cell (b := w.heap.size) (o := 2) (u := .float .f64 f) K1 rfl (by kernel_rfl) aggF (by kernel_rfl) ?_
    refine qs_call (v := .bool (sb f)) fnSign (by kernel_rfl) (vs := #[.float .f64 f]) (by kernel_rfl) (fun w1 hw1 => (sign_calls f hf w1).mono fun _ _ ⟨he, hb⟩ => ⟨he, hb ▸ hw1⟩) ?_
    refine qs_neq_bool (b := sb (0)) (c := sb f) Tryd.underlying4 (by kernel_rfl) (by kernel_rfl) (by kernel_rfl) ?_
    simp only [Act.put, List.setIfInBounds_toArray, List.set_cons_succ, List.set_cons_zero]
    refine qs_pick (b := false) (v := (.bool (sb (0) != sb f))) (by kernel_rfl) (by kernel_rfl) (by kernel_rfl) ?_
    refine wpQuiet_nil ?_
    intro wq hwq
    simp only [Act.put, Exit.then, List.setIfInBounds_toArray, List.set_cons_succ, List.set_cons_zero]
    cases hS : (sb (0) != sb f)
    · go_wp2_with fail
      go_ret
      rw [← HN.out, ← HR.out, show (sb (0) == sb f) = true from by cases q : (sb (0) == sb f) with | true => rfl | false => (unfold bne at hS; rw [q] at hS; cases hS)]
      exact ⟨rfl, hB.trans (hwq.mono hB.size)⟩
    · go_wp2_with fail
      go_ret
      rw [← HN.out, ← HR.out, show (sb (0) == sb f) = false from by cases q : (sb (0) == sb f) with | false => rfl | true => (unfold bne at hS; rw [q] at hS; cases hS)]
      exact ⟨rfl, hB.trans (hwq.mono hB.size)⟩
set_option maxRecDepth 100000 in
set_option maxHeartbeats 8000000 in
theorem r_counter (num : Int) (f : Nat) (str : ByteArray) (w : World) (hf : f < 18446744073709551616) (hs : str.size ≤ 9223372036854775807) :
    Calls Tryd.prog 13 #[.agg (V.mk 7 num f str).cells.toArray] w fun e w' => e = .returned (.int .i64 (if rightR ⟨7, num, f, str⟩ = true then 0 else 30)) ∧ Below w.heap.size w w' := by
  obtain ⟨N, hN⟩ : ∃ N, (if rightR ⟨7, num, f, str⟩ = true then (0 : Int) else 30) = N := ⟨_, rfl⟩
  rw [hN]
  obtain ⟨R, hR⟩ : ∃ R, rightR ⟨7, num, f, str⟩ = R := ⟨_, rfl⟩
  have HN := Lib.hid hN
  rw [hR] at HN
  clear hN
  have HR : Hid ((eqV ⟨7, num, 0, ⟨#[]⟩⟩ ⟨7, num, f, str⟩ && (sb 0 == sb f)) = R) := Lib.hid (by rw [← hR, eqp_plain _ _ _ _ hf]; simp [rightR])
  clear hR
  go_enter Tryd.func13, Tryd.ntmps13
  go_wp2_with (first | ((with_reducible refine pl_boxw (s := ⟨7, num, f, str⟩) ?_ ?_); (· rfl); intro w1 K1 hB hz1; obtain ⟨c0, c1, c2, c3⟩ := v_cells K1) | ((with_reducible refine pl_build_k (kd := 7) ?_ ?_ ?_); (· rfl); (· rfl)) | ((with_reducible refine pl_allocw (b := w.heap.size + 1) hz1 ?_ ?_); (· rfl); intro w2 K3 far2 up2; replace K1 := far2 _ _ _ K1; replace hB := up2 _ _ (by omega) hB; clear c0 c1 c2 c3; obtain ⟨c0, c1, c2, c3⟩ := v_cells K1) | ((with_reducible refine pl_storew (o := v0) (s := ⟨7, 0, 0, ⟨#[]⟩⟩) K3 ?_ ?_ ?_ ?_); (· rfl); (· rfl); (· rfl); clear K3; intro w3 K3 far2 up2; replace K1 := far2 _ _ _ (by omega) K1; replace hB := up2 _ _ (by omega) hB; clear c0 c1 c2 c3; obtain ⟨c0, c1, c2, c3⟩ := v_cells K1) | ((with_reducible refine pl_put (i := 1) (u := .int .i64 num) K3 (by omega) (oneI _ _) ?_ infoN (cellsI _ _) ?_ ?_ ?_); (· rfl); (· rfl); (· rfl); clear K3; intro w4 K3 far2 up2; replace K3 : Blk w4 (w.heap.size + 1) (V.cells ⟨7, num, 0, ⟨#[]⟩⟩).toArray 27 := K3; replace K1 := far2 _ _ _ (by omega) K1; replace hB := up2 _ _ (by omega) hB; clear c0 c1 c2 c3; obtain ⟨c0, c1, c2, c3⟩ := v_cells K1))
  obtain ⟨E, hE⟩ : ∃ E, eqV (V.mk 7 num 0 ⟨#[]⟩) ⟨7, num, f, str⟩ = E := ⟨_, rfl⟩
  have HR := HR
  rw [hE] at HR
  cases E
  · refine region_grown (by kernel_rfl) (by kernel_rfl) ?_
    refine qs_move (v := (.bool true)) (by kernel_rfl) (by kernel_rfl) ?_
    refine qs_not (b := true) (by kernel_rfl) (by kernel_rfl) ?_
    refine qs_move (v := (.bool false)) (by kernel_rfl) (by kernel_rfl) ?_
    simp only [Act.put, List.setIfInBounds_toArray, List.set_cons_succ, List.set_cons_zero]
    refine qs_load_v (b := w.heap.size + 1) (s := (V.mk 7 num 0 ⟨#[]⟩)) K3 (by kernel_rfl) (by kernel_rfl) ?_
    refine qs_load_v (b := w.heap.size) (s := ⟨7, num, f, str⟩) K1 (by kernel_rfl) (by kernel_rfl) ?_
    refine qs_neq_v (r := true) (V.mk 7 num 0 ⟨#[]⟩) ⟨7, num, f, str⟩ (by rw [hE]; rfl) (by kernel_rfl) (by kernel_rfl) (by kernel_rfl) ?_
    simp only [Act.put, List.setIfInBounds_toArray, List.set_cons_succ, List.set_cons_zero]
    refine qs_pick (b := false) (v := (.bool true)) (by kernel_rfl) (by kernel_rfl) (by kernel_rfl) ?_
    refine qs_move (v := (.bool true)) (by kernel_rfl) (by kernel_rfl) ?_
    refine qs_skip (by kernel_rfl) ?_
    simp only [Act.put, List.setIfInBounds_toArray, List.set_cons_succ, List.set_cons_zero]
    refine qs_skip (by kernel_rfl) ?_
    refine qs_skip (by kernel_rfl) ?_
    refine qs_skip (by kernel_rfl) ?_
    simp only [Act.put, List.setIfInBounds_toArray, List.set_cons_succ, List.set_cons_zero]
    refine qs_skip (by kernel_rfl) ?_
    refine qs_skip (by kernel_rfl) ?_
    refine qs_skip (by kernel_rfl) ?_
    simp only [Act.put, List.setIfInBounds_toArray, List.set_cons_succ, List.set_cons_zero]
    refine qs_pick (b := true) (v := (.bool true)) (by kernel_rfl) (by kernel_rfl) (by kernel_rfl) ?_
    refine wpQuiet_nil ?_
    intro wq hwq
    simp only [Act.put, Exit.then, List.setIfInBounds_toArray, List.set_cons_succ, List.set_cons_zero]
    go_wp2_with fail
    go_ret
    rw [← HN.out, ← HR.out]
    exact ⟨rfl, hB.trans (hwq.mono hB.size)⟩
  · refine region_grown (by kernel_rfl) (by kernel_rfl) ?_
    refine qs_move (v := (.bool true)) (by kernel_rfl) (by kernel_rfl) ?_
    refine qs_not (b := true) (by kernel_rfl) (by kernel_rfl) ?_
    refine qs_move (v := (.bool false)) (by kernel_rfl) (by kernel_rfl) ?_
    simp only [Act.put, List.setIfInBounds_toArray, List.set_cons_succ, List.set_cons_zero]
    refine qs_load_v (b := w.heap.size + 1) (s := (V.mk 7 num 0 ⟨#[]⟩)) K3 (by kernel_rfl) (by kernel_rfl) ?_
    refine qs_load_v (b := w.heap.size) (s := ⟨7, num, f, str⟩) K1 (by kernel_rfl) (by kernel_rfl) ?_
    refine qs_neq_v (r := false) (V.mk 7 num 0 ⟨#[]⟩) ⟨7, num, f, str⟩ (by rw [hE]; rfl) (by kernel_rfl) (by kernel_rfl) (by kernel_rfl) ?_
    simp only [Act.put, List.setIfInBounds_toArray, List.set_cons_succ, List.set_cons_zero]
    refine qs_pick (b := false) (v := (.bool false)) (by kernel_rfl) (by kernel_rfl) (by kernel_rfl) ?_
    refine qs_move (v := (.bool false)) (by kernel_rfl) (by kernel_rfl) ?_
    refine qs_field (b := w.heap.size + 1) (o := 0) (off := 2) fld2 (by kernel_rfl) (by kernel_rfl) ?_
    simp only [Act.put, List.setIfInBounds_toArray, List.set_cons_succ, List.set_cons_zero]
    refine qs_load_cell (b := w.heap.size + 1) (o := 2) (u := .float .f64 (0)) K3 rfl (by kernel_rfl) aggF (by kernel_rfl) ?_
    refine qs_call (v := .bool (sb (0))) fnSign (by kernel_rfl) (vs := #[.float .f64 (0)]) (by kernel_rfl) (fun w1 hw1 => (sign_calls (0) (by omega) w1).mono fun _ _ ⟨he, hb⟩ => ⟨he, hb ▸ hw1⟩) ?_
    refine qs_field (b := w.heap.size) (o := 0) (off := 2) fld2 (by kernel_rfl) (by kernel_rfl) ?_
    simp only [Act.put, List.setIfInBounds_toArray, List.set_cons_succ, List.set_cons_zero]
    refine qs_load_cell (b := w.heap.size) (o := 2) (u := .float .f64 f) K1 rfl (by kernel_rfl) aggF (by kernel_rfl) ?_
    refine qs_call (v := .bool (sb f)) fnSign (by kernel_rfl) (vs := #[.float .f64 f]) (by kernel_rfl) (fun w1 hw1 => (sign_calls f hf w1).mono fun _ _ ⟨he, hb⟩ => ⟨he, hb ▸ hw1⟩) ?_
    refine qs_neq_bool (b := sb (0)) (c := sb f) Tryd.underlying4 (by kernel_rfl) (by kernel_rfl) (by kernel_rfl) ?_
    simp only [Act.put, List.setIfInBounds_toArray, List.set_cons_succ, List.set_cons_zero]
    refine qs_pick (b := false) (v := (.bool (sb (0) != sb f))) (by kernel_rfl) (by kernel_rfl) (by kernel_rfl) ?_
    refine wpQuiet_nil ?_
    intro wq hwq
    simp only [Act.put, Exit.then, List.setIfInBounds_toArray, List.set_cons_succ, List.set_cons_zero]
    cases hS : (sb (0) != sb f)
    · go_wp2_with fail
      go_ret
      rw [← HN.out, ← HR.out, show (sb (0) == sb f) = true from by cases q : (sb (0) == sb f) with | true => rfl | false => (unfold bne at hS; rw [q] at hS; cases hS)]
      exact ⟨rfl, hB.trans (hwq.mono hB.size)⟩
    · go_wp2_with fail
      go_ret
      rw [← HN.out, ← HR.out, show (sb (0) == sb f) = false from by cases q : (sb (0) == sb f) with | false => rfl | true => (unfold bne at hS; rw [q] at hS; cases hS)]
      exact ⟨rfl, hB.trans (hwq.mono hB.size)⟩
set_option maxRecDepth 100000 in
set_option maxHeartbeats 8000000 in
theorem r_bool0 (num : Int) (f : Nat) (str : ByteArray) (w : World) (hn : num = 0) (hf : f < 18446744073709551616) (hs : str.size ≤ 9223372036854775807) :
    Calls Tryd.prog 13 #[.agg (V.mk 1 num f str).cells.toArray] w fun e w' => e = .returned (.int .i64 (if rightR ⟨1, num, f, str⟩ = true then 0 else 30)) ∧ Below w.heap.size w w' := by
  obtain ⟨N, hN⟩ : ∃ N, (if rightR ⟨1, num, f, str⟩ = true then (0 : Int) else 30) = N := ⟨_, rfl⟩
  rw [hN]
  obtain ⟨R, hR⟩ : ∃ R, rightR ⟨1, num, f, str⟩ = R := ⟨_, rfl⟩
  have HN := Lib.hid hN
  rw [hR] at HN
  clear hN
  have p1 : (num == 0) = true := beq_iff_eq.mpr hn
  have HR : Hid ((eqV ⟨1, num, 0, ⟨#[]⟩⟩ ⟨1, num, f, str⟩ && (sb 0 == sb f)) = R) := Lib.hid (by rw [← hR, eqp_plain _ _ _ _ hf]; simp [rightR, p1])
  clear hn
  clear hR
  go_enter Tryd.func13, Tryd.ntmps13
  go_wp2_with (first | ((with_reducible refine pl_boxw (s := ⟨1, num, f, str⟩) ?_ ?_); (· rfl); intro w1 K1 hB hz1; obtain ⟨c0, c1, c2, c3⟩ := v_cells K1) | ((with_reducible refine pl_build_k (kd := 1) ?_ ?_ ?_); (· rfl); (· rfl)) | ((with_reducible refine pl_allocw (b := w.heap.size + 1) hz1 ?_ ?_); (· rfl); intro w2 K3 far2 up2; replace K1 := far2 _ _ _ K1; replace hB := up2 _ _ (by omega) hB; clear c0 c1 c2 c3; obtain ⟨c0, c1, c2, c3⟩ := v_cells K1) | ((with_reducible refine pl_storew (o := v0) (s := ⟨1, 0, 0, ⟨#[]⟩⟩) K3 ?_ ?_ ?_ ?_); (· rfl); (· rfl); (· rfl); clear K3; intro w3 K3 far2 up2; replace K1 := far2 _ _ _ (by omega) K1; replace hB := up2 _ _ (by omega) hB; clear c0 c1 c2 c3; obtain ⟨c0, c1, c2, c3⟩ := v_cells K1) | ((with_reducible refine pl_put (i := 1) (u := .int .i64 num) K3 (by omega) (oneI _ _) ?_ infoN (cellsI _ _) ?_ ?_ ?_); (· rfl); (· rfl); (· rfl); clear K3; intro w4 K3 far2 up2; replace K3 : Blk w4 (w.heap.size + 1) (V.cells ⟨1, num, 0, ⟨#[]⟩⟩).toArray 27 := K3; replace K1 := far2 _ _ _ (by omega) K1; replace hB := up2 _ _ (by omega) hB; clear c0 c1 c2 c3; obtain ⟨c0, c1, c2, c3⟩ := v_cells K1))
  obtain ⟨E, hE⟩ : ∃ E, eqV (V.mk 1 num 0 ⟨#[]⟩) ⟨1, num, f, str⟩ = E := ⟨_, rfl⟩
  have HR := HR
  rw [hE] at HR
  cases E
  · refine region_grown (by kernel_rfl) (by kernel_rfl) ?_
    refine qs_move (v := (.bool true)) (by kernel_rfl) (by kernel_rfl) ?_
    refine qs_not (b := true) (by kernel_rfl) (by kernel_rfl) ?_
    refine qs_move (v := (.bool false)) (by kernel_rfl) (by kernel_rfl) ?_
    simp only [Act.put, List.setIfInBounds_toArray, List.set_cons_succ, List.set_cons_zero]
    refine qs_load_v (b := w.heap.size + 1) (s := (V.mk 1 num 0 ⟨#[]⟩)) K3 (by kernel_rfl) (by kernel_rfl) ?_
    refine qs_load_v (b := w.heap.size) (s := ⟨1, num, f, str⟩) K1 (by kernel_rfl) (by kernel_rfl) ?_
    refine qs_neq_v (r := true) (V.mk 1 num 0 ⟨#[]⟩) ⟨1, num, f, str⟩ (by rw [hE]; rfl) (by kernel_rfl) (by kernel_rfl) (by kernel_rfl) ?_
    simp only [Act.put, List.setIfInBounds_toArray, List.set_cons_succ, List.set_cons_zero]
    refine qs_pick (b := false) (v := (.bool true)) (by kernel_rfl) (by kernel_rfl) (by kernel_rfl) ?_
    refine qs_move (v := (.bool true)) (by kernel_rfl) (by kernel_rfl) ?_
    refine qs_skip (by kernel_rfl) ?_
    simp only [Act.put, List.setIfInBounds_toArray, List.set_cons_succ, List.set_cons_zero]
    refine qs_skip (by kernel_rfl) ?_
    refine qs_skip (by kernel_rfl) ?_
    refine qs_skip (by kernel_rfl) ?_
    simp only [Act.put, List.setIfInBounds_toArray, List.set_cons_succ, List.set_cons_zero]
    refine qs_skip (by kernel_rfl) ?_
    refine qs_skip (by kernel_rfl) ?_
    refine qs_skip (by kernel_rfl) ?_
    simp only [Act.put, List.setIfInBounds_toArray, List.set_cons_succ, List.set_cons_zero]
    refine qs_pick (b := true) (v := (.bool true)) (by kernel_rfl) (by kernel_rfl) (by kernel_rfl) ?_
    refine wpQuiet_nil ?_
    intro wq hwq
    simp only [Act.put, Exit.then, List.setIfInBounds_toArray, List.set_cons_succ, List.set_cons_zero]
    go_wp2_with fail
    go_ret
    rw [← HN.out, ← HR.out]
    exact ⟨rfl, hB.trans (hwq.mono hB.size)⟩
  · refine region_grown (by kernel_rfl) (by kernel_rfl) ?_
    refine qs_move (v := (.bool true)) (by kernel_rfl) (by kernel_rfl) ?_
    refine qs_not (b := true) (by kernel_rfl) (by kernel_rfl) ?_
    refine qs_move (v := (.bool false)) (by kernel_rfl) (by kernel_rfl) ?_
    simp only [Act.put, List.setIfInBounds_toArray, List.set_cons_succ, List.set_cons_zero]
    refine qs_load_v (b := w.heap.size + 1) (s := (V.mk 1 num 0 ⟨#[]⟩)) K3 (by kernel_rfl) (by kernel_rfl) ?_
    refine qs_load_v (b := w.heap.size) (s := ⟨1, num, f, str⟩) K1 (by kernel_rfl) (by kernel_rfl) ?_
    refine qs_neq_v (r := false) (V.mk 1 num 0 ⟨#[]⟩) ⟨1, num, f, str⟩ (by rw [hE]; rfl) (by kernel_rfl) (by kernel_rfl) (by kernel_rfl) ?_
    simp only [Act.put, List.setIfInBounds_toArray, List.set_cons_succ, List.set_cons_zero]
    refine qs_pick (b := false) (v := (.bool false)) (by kernel_rfl) (by kernel_rfl) (by kernel_rfl) ?_
    refine qs_move (v := (.bool false)) (by kernel_rfl) (by kernel_rfl) ?_
    refine qs_field (b := w.heap.size + 1) (o := 0) (off := 2) fld2 (by kernel_rfl) (by kernel_rfl) ?_
    simp only [Act.put, List.setIfInBounds_toArray, List.set_cons_succ, List.set_cons_zero]
    refine qs_load_cell (b := w.heap.size + 1) (o := 2) (u := .float .f64 (0)) K3 rfl (by kernel_rfl) aggF (by kernel_rfl) ?_
    refine qs_call (v := .bool (sb (0))) fnSign (by kernel_rfl) (vs := #[.float .f64 (0)]) (by kernel_rfl) (fun w1 hw1 => (sign_calls (0) (by omega) w1).mono fun _ _ ⟨he, hb⟩ => ⟨he, hb ▸ hw1⟩) ?_
    refine qs_field (b := w.heap.size) (o := 0) (off := 2) fld2 (by kernel_rfl) (by kernel_rfl) ?_
    simp only [Act.put, List.setIfInBounds_toArray, List.set_cons_succ, List.set_cons_zero]
    refine qs_load_cell (b := w.heap.size) (o := 2) (u := .float .f64 f) K1 rfl (by kernel_rfl) aggF (by kernel_rfl) ?_
    refine qs_call (v := .bool (sb f)) fnSign (by kernel_rfl) (vs := #[.float .f64 f]) (by kernel_rfl) (fun w1 hw1 => (sign_calls f hf w1).mono fun _ _ ⟨he, hb⟩ => ⟨he, hb ▸ hw1⟩) ?_
    refine qs_neq_bool (b := sb (0)) (c := sb f) Tryd.underlying4 (by kernel_rfl) (by kernel_rfl) (by kernel_rfl) ?_
    simp only [Act.put, List.setIfInBounds_toArray, List.set_cons_succ, List.set_cons_zero]
    refine qs_pick (b := false) (v := (.bool (sb (0) != sb f))) (by kernel_rfl) (by kernel_rfl) (by kernel_rfl) ?_
    refine wpQuiet_nil ?_
    intro wq hwq
    simp only [Act.put, Exit.then, List.setIfInBounds_toArray, List.set_cons_succ, List.set_cons_zero]
    cases hS : (sb (0) != sb f)
    · go_wp2_with fail
      go_ret
      rw [← HN.out, ← HR.out, show (sb (0) == sb f) = true from by cases q : (sb (0) == sb f) with | true => rfl | false => (unfold bne at hS; rw [q] at hS; cases hS)]
      exact ⟨rfl, hB.trans (hwq.mono hB.size)⟩
    · go_wp2_with fail
      go_ret
      rw [← HN.out, ← HR.out, show (sb (0) == sb f) = false from by cases q : (sb (0) == sb f) with | false => rfl | true => (unfold bne at hS; rw [q] at hS; cases hS)]
      exact ⟨rfl, hB.trans (hwq.mono hB.size)⟩
set_option maxRecDepth 100000 in
set_option maxHeartbeats 8000000 in
theorem r_bool1 (num : Int) (f : Nat) (str : ByteArray) (w : World) (hn : num = 1) (hf : f < 18446744073709551616) (hs : str.size ≤ 9223372036854775807) :
    Calls Tryd.prog 13 #[.agg (V.mk 1 num f str).cells.toArray] w fun e w' => e = .returned (.int .i64 (if rightR ⟨1, num, f, str⟩ = true then 0 else 30)) ∧ Below w.heap.size w w' := by
  obtain ⟨N, hN⟩ : ∃ N, (if rightR ⟨1, num, f, str⟩ = true then (0 : Int) else 30) = N := ⟨_, rfl⟩
  rw [hN]
  obtain ⟨R, hR⟩ : ∃ R, rightR ⟨1, num, f, str⟩ = R := ⟨_, rfl⟩
  have HN := Lib.hid hN
  rw [hR] at HN
  clear hN
  have p1 : (num == 0) = false := beq_eq_false_iff_ne.mpr (by omega)
  have p2 : (num == 1) = true := beq_iff_eq.mpr hn
  have HR : Hid ((eqV ⟨1, num, 0, ⟨#[]⟩⟩ ⟨1, num, f, str⟩ && (sb 0 == sb f)) = R) := Lib.hid (by rw [← hR, eqp_plain _ _ _ _ hf]; simp [rightR, p1, p2])
  clear hn
  clear hR
  go_enter Tryd.func13, Tryd.ntmps13
  go_wp2_with (first | ((with_reducible refine pl_boxw (s := ⟨1, num, f, str⟩) ?_ ?_); (· rfl); intro w1 K1 hB hz1; obtain ⟨c0, c1, c2, c3⟩ := v_cells K1) | ((with_reducible refine pl_build_k (kd := 1) ?_ ?_ ?_); (· rfl); (· rfl)) | ((with_reducible refine pl_allocw (b := w.heap.size + 1) hz1 ?_ ?_); (· rfl); intro w2 K3 far2 up2; replace K1 := far2 _ _ _ K1; replace hB := up2 _ _ (by omega) hB; clear c0 c1 c2 c3; obtain ⟨c0, c1, c2, c3⟩ := v_cells K1) | ((with_reducible refine pl_storew (o := v0) (s := ⟨1, 0, 0, ⟨#[]⟩⟩) K3 ?_ ?_ ?_ ?_); (· rfl); (· rfl); (· rfl); clear K3; intro w3 K3 far2 up2; replace K1 := far2 _ _ _ (by omega) K1; replace hB := up2 _ _ (by omega) hB; clear c0 c1 c2 c3; obtain ⟨c0, c1, c2, c3⟩ := v_cells K1) | ((with_reducible refine pl_put (i := 1) (u := .int .i64 num) K3 (by omega) (oneI _ _) ?_ infoN (cellsI _ _) ?_ ?_ ?_); (· rfl); (· rfl); (· rfl); clear K3; intro w4 K3 far2 up2; replace K3 : Blk w4 (w.heap.size + 1) (V.cells ⟨1, num, 0, ⟨#[]⟩⟩).toArray 27 := K3; replace K1 := far2 _ _ _ (by omega) K1; replace hB := up2 _ _ (by omega) hB; clear c0 c1 c2 c3; obtain ⟨c0, c1, c2, c3⟩ := v_cells K1))
  obtain ⟨E, hE⟩ : ∃ E, eqV (V.mk 1 num 0 ⟨#[]⟩) ⟨1, num, f, str⟩ = E := ⟨_, rfl⟩
  have HR := HR
  rw [hE] at HR
  cases E
  · refine region_grown (by kernel_rfl) (by kernel_rfl) ?_
    refine qs_move (v := (.bool true)) (by kernel_rfl) (by kernel_rfl) ?_
    refine qs_not (b := true) (by kernel_rfl) (by kernel_rfl) ?_
    refine qs_move (v := (.bool false)) (by kernel_rfl) (by kernel_rfl) ?_
    simp only [Act.put, List.setIfInBounds_toArray, List.set_cons_succ, List.set_cons_zero]
    refine qs_load_v (b := w.heap.size + 1) (s := (V.mk 1 num 0 ⟨#[]⟩)) K3 (by kernel_rfl) (by kernel_rfl) ?_
    refine qs_load_v (b := w.heap.size) (s := ⟨1, num, f, str⟩) K1 (by kernel_rfl) (by kernel_rfl) ?_
    refine qs_neq_v (r := true) (V.mk 1 num 0 ⟨#[]⟩) ⟨1, num, f, str⟩ (by rw [hE]; rfl) (by kernel_rfl) (by kernel_rfl) (by kernel_rfl) ?_
    simp only [Act.put, List.setIfInBounds_toArray, List.set_cons_succ, List.set_cons_zero]
    refine qs_pick (b := false) (v := (.bool true)) (by kernel_rfl) (by kernel_rfl) (by kernel_rfl) ?_
    refine qs_move (v := (.bool true)) (by kernel_rfl) (by kernel_rfl) ?_
    refine qs_skip (by kernel_rfl) ?_
    simp only [Act.put, List.setIfInBounds_toArray, List.set_cons_succ, List.set_cons_zero]
    refine qs_skip (by kernel_rfl) ?_
    refine qs_skip (by kernel_rfl) ?_
    refine qs_skip (by kernel_rfl) ?_
    simp only [Act.put, List.setIfInBounds_toArray, List.set_cons_succ, List.set_cons_zero]
    refine qs_skip (by kernel_rfl) ?_
    refine qs_skip (by kernel_rfl) ?_
    refine qs_skip (by kernel_rfl) ?_
    simp only [Act.put, List.setIfInBounds_toArray, List.set_cons_succ, List.set_cons_zero]
    refine qs_pick (b := true) (v := (.bool true)) (by kernel_rfl) (by kernel_rfl) (by kernel_rfl) ?_
    refine wpQuiet_nil ?_
    intro wq hwq
    simp only [Act.put, Exit.then, List.setIfInBounds_toArray, List.set_cons_succ, List.set_cons_zero]
    go_wp2_with fail
    go_ret
    rw [← HN.out, ← HR.out]
    exact ⟨rfl, hB.trans (hwq.mono hB.size)⟩
  · refine region_grown (by kernel_rfl) (by kernel_rfl) ?_
    refine qs_move (v := (.bool true)) (by kernel_rfl) (by kernel_rfl) ?_
    refine qs_not (b := true) (by kernel_rfl) (by kernel_rfl) ?_
    refine qs_move (v := (.bool false)) (by kernel_rfl) (by kernel_rfl) ?_
    simp only [Act.put, List.setIfInBounds_toArray, List.set_cons_succ, List.set_cons_zero]
    refine qs_load_v (b := w.heap.size + 1) (s := (V.mk 1 num 0 ⟨#[]⟩)) K3 (by kernel_rfl) (by kernel_rfl) ?_
    refine qs_load_v (b := w.heap.size) (s := ⟨1, num, f, str⟩) K1 (by kernel_rfl) (by kernel_rfl) ?_
    refine qs_neq_v (r := false) (V.mk 1 num 0 ⟨#[]⟩) ⟨1, num, f, str⟩ (by rw [hE]; rfl) (by kernel_rfl) (by kernel_rfl) (by kernel_rfl) ?_
    simp only [Act.put, List.setIfInBounds_toArray, List.set_cons_succ, List.set_cons_zero]
    refine qs_pick (b := false) (v := (.bool false)) (by kernel_rfl) (by kernel_rfl) (by kernel_rfl) ?_
    refine qs_move (v := (.bool false)) (by kernel_rfl) (by kernel_rfl) ?_
    refine qs_field (b := w.heap.size + 1) (o := 0) (off := 2) fld2 (by kernel_rfl) (by kernel_rfl) ?_
    simp only [Act.put, List.setIfInBounds_toArray, List.set_cons_succ, List.set_cons_zero]
    refine qs_load_cell (b := w.heap.size + 1) (o := 2) (u := .float .f64 (0)) K3 rfl (by kernel_rfl) aggF (by kernel_rfl) ?_
    refine qs_call (v := .bool (sb (0))) fnSign (by kernel_rfl) (vs := #[.float .f64 (0)]) (by kernel_rfl) (fun w1 hw1 => (sign_calls (0) (by omega) w1).mono fun _ _ ⟨he, hb⟩ => ⟨he, hb ▸ hw1⟩) ?_
    refine qs_field (b := w.heap.size) (o := 0) (off := 2) fld2 (by kernel_rfl) (by kernel_rfl) ?_
    simp only [Act.put, List.setIfInBounds_toArray, List.set_cons_succ, List.set_cons_zero]
    refine qs_load_cell (b := w.heap.size) (o := 2) (u := .float .f64 f) K1 rfl (by kernel_rfl) aggF (by kernel_rfl) ?_
    refine qs_call (v := .bool (sb f)) fnSign (by kernel_rfl) (vs := #[.float .f64 f]) (by kernel_rfl) (fun w1 hw1 => (sign_calls f hf w1).mono fun _ _ ⟨he, hb⟩ => ⟨he, hb ▸ hw1⟩) ?_
    refine qs_neq_bool (b := sb (0)) (c := sb f) Tryd.underlying4 (by kernel_rfl) (by kernel_rfl) (by kernel_rfl) ?_
    simp only [Act.put, List.setIfInBounds_toArray, List.set_cons_succ, List.set_cons_zero]
    refine qs_pick (b := false) (v := (.bool (sb (0) != sb f))) (by kernel_rfl) (by kernel_rfl) (by kernel_rfl) ?_
    refine wpQuiet_nil ?_
    intro wq hwq
    simp only [Act.put, Exit.then, List.setIfInBounds_toArray, List.set_cons_succ, List.set_cons_zero]
    cases hS : (sb (0) != sb f)
    · go_wp2_with fail
      go_ret
      rw [← HN.out, ← HR.out, show (sb (0) == sb f) = true from by cases q : (sb (0) == sb f) with | true => rfl | false => (unfold bne at hS; rw [q] at hS; cases hS)]
      exact ⟨rfl, hB.trans (hwq.mono hB.size)⟩
    · go_wp2_with fail
      go_ret
      rw [← HN.out, ← HR.out, show (sb (0) == sb f) = false from by cases q : (sb (0) == sb f) with | false => rfl | true => (unfold bne at hS; rw [q] at hS; cases hS)]
      exact ⟨rfl, hB.trans (hwq.mono hB.size)⟩
set_option maxRecDepth 100000 in
set_option maxHeartbeats 8000000 in
theorem r_boolx (num : Int) (f : Nat) (str : ByteArray) (w : World) (h0 : num ≠ 0) (h1 : num ≠ 1) (hf : f < 18446744073709551616) (hs : str.size ≤ 9223372036854775807) :
    Calls Tryd.prog 13 #[.agg (V.mk 1 num f str).cells.toArray] w fun e w' => e = .returned (.int .i64 (if rightR ⟨1, num, f, str⟩ = true then 0 else 30)) ∧ Below w.heap.size w w' := by
  obtain ⟨N, hN⟩ : ∃ N, (if rightR ⟨1, num, f, str⟩ = true then (0 : Int) else 30) = N := ⟨_, rfl⟩
  rw [hN]
  obtain ⟨R, hR⟩ : ∃ R, rightR ⟨1, num, f, str⟩ = R := ⟨_, rfl⟩
  have HN := Lib.hid hN
  rw [hR] at HN
  clear hN
  have p1 : (num == 0) = false := beq_eq_false_iff_ne.mpr h0
  have p2 : (num == 1) = false := beq_eq_false_iff_ne.mpr h1
  have HR : Hid (false = R) := Lib.hid (by rw [← hR]; simp [rightR, p1, p2])
  clear h0 h1
  clear hR
  go_enter Tryd.func13, Tryd.ntmps13
  go_wp2_with (first | ((with_reducible refine pl_boxw (s := ⟨1, num, f, str⟩) ?_ ?_); (· rfl); intro w1 K1 hB hz1; obtain ⟨c0, c1, c2, c3⟩ := v_cells K1) | ((with_reducible refine pl_build_k (kd := 1) ?_ ?_ ?_); (· rfl); (· rfl)) | ((with_reducible refine pl_allocw (b := w.heap.size + 1) hz1 ?_ ?_); (· rfl); intro w2 K3 far2 up2; replace K1 := far2 _ _ _ K1; replace hB := up2 _ _ (by omega) hB; clear c0 c1 c2 c3; obtain ⟨c0, c1, c2, c3⟩ := v_cells K1) | ((with_reducible refine pl_storew (o := v0) (s := ⟨1, 0, 0, ⟨#[]⟩⟩) K3 ?_ ?_ ?_ ?_); (· rfl); (· rfl); (· rfl); clear K3; intro w3 K3 far2 up2; replace K1 := far2 _ _ _ (by omega) K1; replace hB := up2 _ _ (by omega) hB; clear c0 c1 c2 c3; obtain ⟨c0, c1, c2, c3⟩ := v_cells K1) | ((with_reducible refine pl_put (i := 1) (u := .int .i64 num) K3 (by omega) (oneI _ _) ?_ infoN (cellsI _ _) ?_ ?_ ?_); (· rfl); (· rfl); (· rfl); clear K3; intro w4 K3 far2 up2; replace K3 : Blk w4 (w.heap.size + 1) (V.cells ⟨1, num, 0, ⟨#[]⟩⟩).toArray 27 := K3; replace K1 := far2 _ _ _ (by omega) K1; replace hB := up2 _ _ (by omega) hB; clear c0 c1 c2 c3; obtain ⟨c0, c1, c2, c3⟩ := v_cells K1))
  refine region_grown (by kernel_rfl) (by kernel_rfl) ?_
  refine qs_move (v := (.bool false)) (by kernel_rfl) (by kernel_rfl) ?_
  refine qs_not (b := false) (by kernel_rfl) (by kernel_rfl) ?_
  refine qs_move (v := (.bool true)) (by kernel_rfl) (by kernel_rfl) ?_
  simp only [Act.put, List.setIfInBounds_toArray, List.set_cons_succ, List.set_cons_zero]
  refine qs_skip (by kernel_rfl) ?_
  refine qs_skip (by kernel_rfl) ?_
  refine qs_skip (by kernel_rfl) ?_
  simp only [Act.put, List.setIfInBounds_toArray, List.set_cons_succ, List.set_cons_zero]
  refine qs_pick (b := true) (v := (.bool true)) (by kernel_rfl) (by kernel_rfl) (by kernel_rfl) ?_
  refine qs_move (v := (.bool true)) (by kernel_rfl) (by kernel_rfl) ?_
  refine qs_skip (by kernel_rfl) ?_
  simp only [Act.put, List.setIfInBounds_toArray, List.set_cons_succ, List.set_cons_zero]
  refine qs_skip (by kernel_rfl) ?_
  refine qs_skip (by kernel_rfl) ?_
  refine qs_skip (by kernel_rfl) ?_
  simp only [Act.put, List.setIfInBounds_toArray, List.set_cons_succ, List.set_cons_zero]
  refine qs_skip (by kernel_rfl) ?_
  refine qs_skip (by kernel_rfl) ?_
  refine qs_skip (by kernel_rfl) ?_
  simp only [Act.put, List.setIfInBounds_toArray, List.set_cons_succ, List.set_cons_zero]
  refine qs_pick (b := true) (v := (.bool true)) (by kernel_rfl) (by kernel_rfl) (by kernel_rfl) ?_
  refine wpQuiet_nil ?_
  intro wq hwq
  simp only [Act.put, Exit.then, List.setIfInBounds_toArray, List.set_cons_succ, List.set_cons_zero]
  go_wp2_with fail
  go_ret
  rw [← HN.out, ← HR.out]
  exact ⟨rfl, hB.trans (hwq.mono hB.size)⟩
set_option maxRecDepth 100000 in
set_option maxHeartbeats 8000000 in
theorem r_time (num : Int) (f : Nat) (str : ByteArray) (w : World) (h0 : 0 ≤ num) (h1 : num ≤ 9007199254740992) (hf : f < 18446744073709551616) (hs : str.size ≤ 9223372036854775807) :
    Calls Tryd.prog 13 #[.agg (V.mk 6 num f str).cells.toArray] w fun e w' => e = .returned (.int .i64 (if rightR ⟨6, num, f, str⟩ = true then 0 else 30)) ∧ Below w.heap.size w w' := by
  obtain ⟨N, hN⟩ : ∃ N, (if rightR ⟨6, num, f, str⟩ = true then (0 : Int) else 30) = N := ⟨_, rfl⟩
  rw [hN]
  obtain ⟨R, hR⟩ : ∃ R, rightR ⟨6, num, f, str⟩ = R := ⟨_, rfl⟩
  have HN := Lib.hid hN
  rw [hR] at HN
  clear hN
  have HR : Hid ((eqV ⟨6, num, 0, ⟨#[]⟩⟩ ⟨6, num, f, str⟩ && (sb 0 == sb f)) = R) := Lib.hid (by rw [← hR, eqp_plain _ _ _ _ hf]; simp [rightR, h0, h1])
  clear hR
  go_enter Tryd.func13, Tryd.ntmps13
  go_wp2_with (first | ((with_reducible refine pl_boxw (s := ⟨6, num, f, str⟩) ?_ ?_); (· rfl); intro w1 K1 hB hz1; obtain ⟨c0, c1, c2, c3⟩ := v_cells K1) | ((with_reducible refine pl_build_k (kd := 6) ?_ ?_ ?_); (· rfl); (· rfl)) | ((with_reducible refine pl_allocw (b := w.heap.size + 1) hz1 ?_ ?_); (· rfl); intro w2 K3 far2 up2; replace K1 := far2 _ _ _ K1; replace hB := up2 _ _ (by omega) hB; clear c0 c1 c2 c3; obtain ⟨c0, c1, c2, c3⟩ := v_cells K1) | ((with_reducible refine pl_storew (o := v0) (s := ⟨6, 0, 0, ⟨#[]⟩⟩) K3 ?_ ?_ ?_ ?_); (· rfl); (· rfl); (· rfl); clear K3; intro w3 K3 far2 up2; replace K1 := far2 _ _ _ (by omega) K1; replace hB := up2 _ _ (by omega) hB; clear c0 c1 c2 c3; obtain ⟨c0, c1, c2, c3⟩ := v_cells K1) | ((with_reducible refine pl_put (i := 1) (u := .int .i64 num) K3 (by omega) (oneI _ _) ?_ infoN (cellsI _ _) ?_ ?_ ?_); (· rfl); (· rfl); (· rfl); clear K3; intro w4 K3 far2 up2; replace K3 : Blk w4 (w.heap.size + 1) (V.cells ⟨6, num, 0, ⟨#[]⟩⟩).toArray 27 := K3; replace K1 := far2 _ _ _ (by omega) K1; replace hB := up2 _ _ (by omega) hB; clear c0 c1 c2 c3; obtain ⟨c0, c1, c2, c3⟩ := v_cells K1))
  obtain ⟨E, hE⟩ : ∃ E, eqV (V.mk 6 num 0 ⟨#[]⟩) ⟨6, num, f, str⟩ = E := ⟨_, rfl⟩
  have HR := HR
  rw [hE] at HR
  cases E
  · refine region_grown (by kernel_rfl) (by kernel_rfl) ?_
    refine qs_move (v := (.bool true)) (by kernel_rfl) (by kernel_rfl) ?_
    refine qs_not (b := true) (by kernel_rfl) (by kernel_rfl) ?_
    refine qs_move (v := (.bool false)) (by kernel_rfl) (by kernel_rfl) ?_
    simp only [Act.put, List.setIfInBounds_toArray, List.set_cons_succ, List.set_cons_zero]
    refine qs_load_v (b := w.heap.size + 1) (s := (V.mk 6 num 0 ⟨#[]⟩)) K3 (by kernel_rfl) (by kernel_rfl) ?_
    refine qs_load_v (b := w.heap.size) (s := ⟨6, num, f, str⟩) K1 (by kernel_rfl) (by kernel_rfl) ?_
    refine qs_neq_v (r := true) (V.mk 6 num 0 ⟨#[]⟩) ⟨6, num, f, str⟩ (by rw [hE]; rfl) (by kernel_rfl) (by kernel_rfl) (by kernel_rfl) ?_
    simp only [Act.put, List.setIfInBounds_toArray, List.set_cons_succ, List.set_cons_zero]
    refine qs_pick (b := false) (v := (.bool true)) (by kernel_rfl) (by kernel_rfl) (by kernel_rfl) ?_
    refine qs_move (v := (.bool true)) (by kernel_rfl) (by kernel_rfl) ?_
    refine qs_skip (by kernel_rfl) ?_
    simp only [Act.put, List.setIfInBounds_toArray, List.set_cons_succ, List.set_cons_zero]
    refine qs_skip (by kernel_rfl) ?_
    refine qs_skip (by kernel_rfl) ?_
    refine qs_skip (by kernel_rfl) ?_
    simp only [Act.put, List.setIfInBounds_toArray, List.set_cons_succ, List.set_cons_zero]
    refine qs_skip (by kernel_rfl) ?_
    refine qs_skip (by kernel_rfl) ?_
    refine qs_skip (by kernel_rfl) ?_
    simp only [Act.put, List.setIfInBounds_toArray, List.set_cons_succ, List.set_cons_zero]
    refine qs_pick (b := true) (v := (.bool true)) (by kernel_rfl) (by kernel_rfl) (by kernel_rfl) ?_
    refine wpQuiet_nil ?_
    intro wq hwq
    simp only [Act.put, Exit.then, List.setIfInBounds_toArray, List.set_cons_succ, List.set_cons_zero]
    go_wp2_with fail
    go_ret
    rw [← HN.out, ← HR.out]
    exact ⟨rfl, hB.trans (hwq.mono hB.size)⟩
  · refine region_grown (by kernel_rfl) (by kernel_rfl) ?_
    refine qs_move (v := (.bool true)) (by kernel_rfl) (by kernel_rfl) ?_
    refine qs_not (b := true) (by kernel_rfl) (by kernel_rfl) ?_
    refine qs_move (v := (.bool false)) (by kernel_rfl) (by kernel_rfl) ?_
    simp only [Act.put, List.setIfInBounds_toArray, List.set_cons_succ, List.set_cons_zero]
    refine qs_load_v (b := w.heap.size + 1) (s := (V.mk 6 num 0 ⟨#[]⟩)) K3 (by kernel_rfl) (by kernel_rfl) ?_
    refine qs_load_v (b := w.heap.size) (s := ⟨6, num, f, str⟩) K1 (by kernel_rfl) (by kernel_rfl) ?_
    refine qs_neq_v (r := false) (V.mk 6 num 0 ⟨#[]⟩) ⟨6, num, f, str⟩ (by rw [hE]; rfl) (by kernel_rfl) (by kernel_rfl) (by kernel_rfl) ?_
    simp only [Act.put, List.setIfInBounds_toArray, List.set_cons_succ, List.set_cons_zero]
    refine qs_pick (b := false) (v := (.bool false)) (by kernel_rfl) (by kernel_rfl) (by kernel_rfl) ?_
    refine qs_move (v := (.bool false)) (by kernel_rfl) (by kernel_rfl) ?_
    refine qs_field (b := w.heap.size + 1) (o := 0) (off := 2) fld2 (by kernel_rfl) (by kernel_rfl) ?_
    simp only [Act.put, List.setIfInBounds_toArray, List.set_cons_succ, List.set_cons_zero]
    refine qs_load_cell (b := w.heap.size + 1) (o := 2) (u := .float .f64 (0)) K3 rfl (by kernel_rfl) aggF (by kernel_rfl) ?_
    refine qs_call (v := .bool (sb (0))) fnSign (by kernel_rfl) (vs := #[.float .f64 (0)]) (by kernel_rfl) (fun w1 hw1 => (sign_calls (0) (by omega) w1).mono fun _ _ ⟨he, hb⟩ => ⟨he, hb ▸ hw1⟩) ?_
    refine qs_field (b := w.heap.size) (o := 0) (off := 2) fld2 (by kernel_rfl) (by kernel_rfl) ?_
    simp only [Act.put, List.setIfInBounds_toArray, List.set_cons_succ, List.set_cons_zero]
    refine qs_load_cell (b := w.heap.size) (o := 2) (u := .float .f64 f) K1 rfl (by kernel_rfl) aggF (by kernel_rfl) ?_
    refine qs_call (v := .bool (sb f)) fnSign (by kernel_rfl) (vs := #[.float .f64 f]) (by kernel_rfl) (fun w1 hw1 => (sign_calls f hf w1).mono fun _ _ ⟨he, hb⟩ => ⟨he, hb ▸ hw1⟩) ?_
    refine qs_neq_bool (b := sb (0)) (c := sb f) Tryd.underlying4 (by kernel_rfl) (by kernel_rfl) (by kernel_rfl) ?_
    simp only [Act.put, List.setIfInBounds_toArray, List.set_cons_succ, List.set_cons_zero]
    refine qs_pick (b := false) (v := (.bool (sb (0) != sb f))) (by kernel_rfl) (by kernel_rfl) (by kernel_rfl) ?_
    refine wpQuiet_nil ?_
    intro wq hwq
    simp only [Act.put, Exit.then, List.setIfInBounds_toArray, List.set_cons_succ, List.set_cons_zero]
    cases hS : (sb (0) != sb f)
    · go_wp2_with fail
      go_ret
      rw [← HN.out, ← HR.out, show (sb (0) == sb f) = true from by cases q : (sb (0) == sb f) with | true => rfl | false => (unfold bne at hS; rw [q] at hS; cases hS)]
      exact ⟨rfl, hB.trans (hwq.mono hB.size)⟩
    · go_wp2_with fail
      go_ret
      rw [← HN.out, ← HR.out, show (sb (0) == sb f) = false from by cases q : (sb (0) == sb f) with | false => rfl | true => (unfold bne at hS; rw [q] at hS; cases hS)]
      exact ⟨rfl, hB.trans (hwq.mono hB.size)⟩
set_option maxRecDepth 100000 in
set_option maxHeartbeats 8000000 in
theorem r_timelo (num : Int) (f : Nat) (str : ByteArray) (w : World) (h0 : ¬ 0 ≤ num) (hf : f < 18446744073709551616) (hs : str.size ≤ 9223372036854775807) :
    Calls Tryd.prog 13 #[.agg (V.mk 6 num f str).cells.toArray] w fun e w' => e = .returned (.int .i64 (if rightR ⟨6, num, f, str⟩ = true then 0 else 30)) ∧ Below w.heap.size w w' := by
  obtain ⟨N, hN⟩ : ∃ N, (if rightR ⟨6, num, f, str⟩ = true then (0 : Int) else 30) = N := ⟨_, rfl⟩
  rw [hN]
  obtain ⟨R, hR⟩ : ∃ R, rightR ⟨6, num, f, str⟩ = R := ⟨_, rfl⟩
  have HN := Lib.hid hN
  rw [hR] at HN
  clear hN
  have HR : Hid (false = R) := Lib.hid (by rw [← hR]; simp [rightR, h0])
  clear hR
  go_enter Tryd.func13, Tryd.ntmps13
  go_wp2_with (first | ((with_reducible refine pl_boxw (s := ⟨6, num, f, str⟩) ?_ ?_); (· rfl); intro w1 K1 hB hz1; obtain ⟨c0, c1, c2, c3⟩ := v_cells K1) | ((with_reducible refine pl_build_k (kd := 6) ?_ ?_ ?_); (· rfl); (· rfl)) | ((with_reducible refine pl_allocw (b := w.heap.size + 1) hz1 ?_ ?_); (· rfl); intro w2 K3 far2 up2; replace K1 := far2 _ _ _ K1; replace hB := up2 _ _ (by omega) hB; clear c0 c1 c2 c3; obtain ⟨c0, c1, c2, c3⟩ := v_cells K1) | ((with_reducible refine pl_storew (o := v0) (s := ⟨6, 0, 0, ⟨#[]⟩⟩) K3 ?_ ?_ ?_ ?_); (· rfl); (· rfl); (· rfl); clear K3; intro w3 K3 far2 up2; replace K1 := far2 _ _ _ (by omega) K1; replace hB := up2 _ _ (by omega) hB; clear c0 c1 c2 c3; obtain ⟨c0, c1, c2, c3⟩ := v_cells K1) | ((with_reducible refine pl_put (i := 1) (u := .int .i64 num) K3 (by omega) (oneI _ _) ?_ infoN (cellsI _ _) ?_ ?_ ?_); (· rfl); (· rfl); (· rfl); clear K3; intro w4 K3 far2 up2; replace K3 : Blk w4 (w.heap.size + 1) (V.cells ⟨6, num, 0, ⟨#[]⟩⟩).toArray 27 := K3; replace K1 := far2 _ _ _ (by omega) K1; replace hB := up2 _ _ (by omega) hB; clear c0 c1 c2 c3; obtain ⟨c0, c1, c2, c3⟩ := v_cells K1))
  refine region_grown (by kernel_rfl) (by kernel_rfl) ?_
  refine qs_move (v := (.bool false)) (by kernel_rfl) (by kernel_rfl) ?_
  refine qs_not (b := false) (by kernel_rfl) (by kernel_rfl) ?_
  refine qs_move (v := (.bool true)) (by kernel_rfl) (by kernel_rfl) ?_
  simp only [Act.put, List.setIfInBounds_toArray, List.set_cons_succ, List.set_cons_zero]
  refine qs_skip (by kernel_rfl) ?_
  refine qs_skip (by kernel_rfl) ?_
  refine qs_skip (by kernel_rfl) ?_
  simp only [Act.put, List.setIfInBounds_toArray, List.set_cons_succ, List.set_cons_zero]
  refine qs_pick (b := true) (v := (.bool true)) (by kernel_rfl) (by kernel_rfl) (by kernel_rfl) ?_
  refine qs_move (v := (.bool true)) (by kernel_rfl) (by kernel_rfl) ?_
  refine qs_skip (by kernel_rfl) ?_
  simp only [Act.put, List.setIfInBounds_toArray, List.set_cons_succ, List.set_cons_zero]
  refine qs_skip (by kernel_rfl) ?_
  refine qs_skip (by kernel_rfl) ?_
  refine qs_skip (by kernel_rfl) ?_
  simp only [Act.put, List.setIfInBounds_toArray, List.set_cons_succ, List.set_cons_zero]
  refine qs_skip (by kernel_rfl) ?_
  refine qs_skip (by kernel_rfl) ?_
  refine qs_skip (by kernel_rfl) ?_
  simp only [Act.put, List.setIfInBounds_toArray, List.set_cons_succ, List.set_cons_zero]
  refine qs_pick (b := true) (v := (.bool true)) (by kernel_rfl) (by kernel_rfl) (by kernel_rfl) ?_
  refine wpQuiet_nil ?_
  intro wq hwq
  simp only [Act.put, Exit.then, List.setIfInBounds_toArray, List.set_cons_succ, List.set_cons_zero]
  go_wp2_with fail
  go_ret
  rw [← HN.out, ← HR.out]
  exact ⟨rfl, hB.trans (hwq.mono hB.size)⟩
set_option maxRecDepth 100000 in
set_option maxHeartbeats 8000000 in
theorem r_timehi (num : Int) (f : Nat) (str : ByteArray) (w : World) (h0 : 0 ≤ num) (h1 : ¬ num ≤ 9007199254740992) (hf : f < 18446744073709551616) (hs : str.size ≤ 9223372036854775807) :
    Calls Tryd.prog 13 #[.agg (V.mk 6 num f str).cells.toArray] w fun e w' => e = .returned (.int .i64 (if rightR ⟨6, num, f, str⟩ = true then 0 else 30)) ∧ Below w.heap.size w w' := by
  obtain ⟨N, hN⟩ : ∃ N, (if rightR ⟨6, num, f, str⟩ = true then (0 : Int) else 30) = N := ⟨_, rfl⟩
  rw [hN]
  obtain ⟨R, hR⟩ : ∃ R, rightR ⟨6, num, f, str⟩ = R := ⟨_, rfl⟩
  have HN := Lib.hid hN
  rw [hR] at HN
  clear hN
  have HR : Hid (false = R) := Lib.hid (by rw [← hR]; simp [rightR, h0, h1])
  clear hR
  go_enter Tryd.func13, Tryd.ntmps13
  go_wp2_with (first | ((with_reducible refine pl_boxw (s := ⟨6, num, f, str⟩) ?_ ?_); (· rfl); intro w1 K1 hB hz1; obtain ⟨c0, c1, c2, c3⟩ := v_cells K1) | ((with_reducible refine pl_build_k (kd := 6) ?_ ?_ ?_); (· rfl); (· rfl)) | ((with_reducible refine pl_allocw (b := w.heap.size + 1) hz1 ?_ ?_); (· rfl); intro w2 K3 far2 up2; replace K1 := far2 _ _ _ K1; replace hB := up2 _ _ (by omega) hB; clear c0 c1 c2 c3; obtain ⟨c0, c1, c2, c3⟩ := v_cells K1) | ((with_reducible refine pl_storew (o := v0) (s := ⟨6, 0, 0, ⟨#[]⟩⟩) K3 ?_ ?_ ?_ ?_); (· rfl); (· rfl); (· rfl); clear K3; intro w3 K3 far2 up2; replace K1 := far2 _ _ _ (by omega) K1; replace hB := up2 _ _ (by omega) hB; clear c0 c1 c2 c3; obtain ⟨c0, c1, c2, c3⟩ := v_cells K1) | ((with_reducible refine pl_put (i := 1) (u := .int .i64 num) K3 (by omega) (oneI _ _) ?_ infoN (cellsI _ _) ?_ ?_ ?_); (· rfl); (· rfl); (· rfl); clear K3; intro w4 K3 far2 up2; replace K3 : Blk w4 (w.heap.size + 1) (V.cells ⟨6, num, 0, ⟨#[]⟩⟩).toArray 27 := K3; replace K1 := far2 _ _ _ (by omega) K1; replace hB := up2 _ _ (by omega) hB; clear c0 c1 c2 c3; obtain ⟨c0, c1, c2, c3⟩ := v_cells K1))
  refine region_grown (by kernel_rfl) (by kernel_rfl) ?_
  refine qs_move (v := (.bool false)) (by kernel_rfl) (by kernel_rfl) ?_
  refine qs_not (b := false) (by kernel_rfl) (by kernel_rfl) ?_
  refine qs_move (v := (.bool true)) (by kernel_rfl) (by kernel_rfl) ?_
  simp only [Act.put, List.setIfInBounds_toArray, List.set_cons_succ, List.set_cons_zero]
  refine qs_skip (by kernel_rfl) ?_
  refine qs_skip (by kernel_rfl) ?_
  refine qs_skip (by kernel_rfl) ?_
  simp only [Act.put, List.setIfInBounds_toArray, List.set_cons_succ, List.set_cons_zero]
  refine qs_pick (b := true) (v := (.bool true)) (by kernel_rfl) (by kernel_rfl) (by kernel_rfl) ?_
  refine qs_move (v := (.bool true)) (by kernel_rfl) (by kernel_rfl) ?_
  refine qs_skip (by kernel_rfl) ?_
  simp only [Act.put, List.setIfInBounds_toArray, List.set_cons_succ, List.set_cons_zero]
  refine qs_skip (by kernel_rfl) ?_
  refine qs_skip (by kernel_rfl) ?_
  refine qs_skip (by kernel_rfl) ?_
  simp only [Act.put, List.setIfInBounds_toArray, List.set_cons_succ, List.set_cons_zero]
  refine qs_skip (by kernel_rfl) ?_
  refine qs_skip (by kernel_rfl) ?_
  refine qs_skip (by kernel_rfl) ?_
  simp only [Act.put, List.setIfInBounds_toArray, List.set_cons_succ, List.set_cons_zero]
  refine qs_pick (b := true) (v := (.bool true)) (by kernel_rfl) (by kernel_rfl) (by kernel_rfl) ?_
  refine wpQuiet_nil ?_
  intro wq hwq
  simp only [Act.put, Exit.then, List.setIfInBounds_toArray, List.set_cons_succ, List.set_cons_zero]
  go_wp2_with fail
  go_ret
  rw [← HN.out, ← HR.out]
  exact ⟨rfl, hB.trans (hwq.mono hB.size)⟩
set_option maxRecDepth 100000 in
set_option maxHeartbeats 8000000 in
theorem r_bytes (num : Int) (f : Nat) (str : ByteArray) (w : World) (h1 : str.size ≤ 1000) (hf : f < 18446744073709551616) (hs : str.size ≤ 9223372036854775807) :
    Calls Tryd.prog 13 #[.agg (V.mk 5 num f str).cells.toArray] w fun e w' => e = .returned (.int .i64 (if rightR ⟨5, num, f, str⟩ = true then 0 else 30)) ∧ Below w.heap.size w w' := by
  obtain ⟨N, hN⟩ : ∃ N, (if rightR ⟨5, num, f, str⟩ = true then (0 : Int) else 30) = N := ⟨_, rfl⟩
  rw [hN]
  obtain ⟨R, hR⟩ : ∃ R, rightR ⟨5, num, f, str⟩ = R := ⟨_, rfl⟩
  have HN := Lib.hid hN
  rw [hR] at HN
  clear hN
  have q1 : (str.size : Int) ≤ 1000 := by omega
  have HR : Hid ((eqV ⟨5, 0, 0, str⟩ ⟨5, num, f, str⟩ && (sb 0 == sb f)) = R) := Lib.hid (by rw [← hR, eqp_str _ _ _ hf]; simp [rightR, h1])
  clear hR
  go_enter Tryd.func13, Tryd.ntmps13
  go_wp2_with (first | ((with_reducible refine pl_boxw (s := ⟨5, num, f, str⟩) ?_ ?_); (· rfl); intro w1 K1 hB hz1; obtain ⟨c0, c1, c2, c3⟩ := v_cells K1) | ((with_reducible refine pl_build_k (kd := 5) ?_ ?_ ?_); (· rfl); (· rfl)) | ((with_reducible refine pl_allocw (b := w.heap.size + 1) hz1 ?_ ?_); (· rfl); intro w2 K3 far2 up2; replace K1 := far2 _ _ _ K1; replace hB := up2 _ _ (by omega) hB; clear c0 c1 c2 c3; obtain ⟨c0, c1, c2, c3⟩ := v_cells K1) | ((with_reducible refine pl_storew (o := v0) (s := ⟨5, 0, 0, ⟨#[]⟩⟩) K3 ?_ ?_ ?_ ?_); (· rfl); (· rfl); (· rfl); clear K3; intro w3 K3 far2 up2; replace K1 := far2 _ _ _ (by omega) K1; replace hB := up2 _ _ (by omega) hB; clear c0 c1 c2 c3; obtain ⟨c0, c1, c2, c3⟩ := v_cells K1) | ((with_reducible refine pl_put (i := 3) (u := .string str) K3 (by omega) (oneS _) ?_ infoS (cellsS _) ?_ ?_ ?_); (· rfl); (· rfl); (· rfl); clear K3; intro w4 K3 far2 up2; replace K3 : Blk w4 (w.heap.size + 1) (V.cells ⟨5, 0, 0, str⟩).toArray 27 := K3; replace K1 := far2 _ _ _ (by omega) K1; replace hB := up2 _ _ (by omega) hB; clear c0 c1 c2 c3; obtain ⟨c0, c1, c2, c3⟩ := v_cells K1))
  obtain ⟨E, hE⟩ : ∃ E, eqV (V.mk 5 0 0 str) ⟨5, num, f, str⟩ = E := ⟨_, rfl⟩
  have HR := HR
  rw [hE] at HR
  cases E
  · refine region_grown (by kernel_rfl) (by kernel_rfl) ?_
    refine qs_move (v := (.bool true)) (by kernel_rfl) (by kernel_rfl) ?_
    refine qs_not (b := true) (by kernel_rfl) (by kernel_rfl) ?_
    refine qs_move (v := (.bool false)) (by kernel_rfl) (by kernel_rfl) ?_
    simp only [Act.put, List.setIfInBounds_toArray, List.set_cons_succ, List.set_cons_zero]
    refine qs_load_v (b := w.heap.size + 1) (s := (V.mk 5 0 0 str)) K3 (by kernel_rfl) (by kernel_rfl) ?_
    refine qs_load_v (b := w.heap.size) (s := ⟨5, num, f, str⟩) K1 (by kernel_rfl) (by kernel_rfl) ?_
    refine qs_neq_v (r := true) (V.mk 5 0 0 str) ⟨5, num, f, str⟩ (by rw [hE]; rfl) (by kernel_rfl) (by kernel_rfl) (by kernel_rfl) ?_
    simp only [Act.put, List.setIfInBounds_toArray, List.set_cons_succ, List.set_cons_zero]
    refine qs_pick (b := false) (v := (.bool true)) (by kernel_rfl) (by kernel_rfl) (by kernel_rfl) ?_
    refine qs_move (v := (.bool true)) (by kernel_rfl) (by kernel_rfl) ?_
    refine qs_skip (by kernel_rfl) ?_
    simp only [Act.put, List.setIfInBounds_toArray, List.set_cons_succ, List.set_cons_zero]
    refine qs_skip (by kernel_rfl) ?_
    refine qs_skip (by kernel_rfl) ?_
    refine qs_skip (by kernel_rfl) ?_
    simp only [Act.put, List.setIfInBounds_toArray, List.set_cons_succ, List.set_cons_zero]
    refine qs_skip (by kernel_rfl) ?_
    refine qs_skip (by kernel_rfl) ?_
    refine qs_skip (by kernel_rfl) ?_
    simp only [Act.put, List.setIfInBounds_toArray, List.set_cons_succ, List.set_cons_zero]
    refine qs_pick (b := true) (v := (.bool true)) (by kernel_rfl) (by kernel_rfl) (by kernel_rfl) ?_
    refine wpQuiet_nil ?_
    intro wq hwq
    simp only [Act.put, Exit.then, List.setIfInBounds_toArray, List.set_cons_succ, List.set_cons_zero]
    go_wp2_with fail
    go_ret
    rw [← HN.out, ← HR.out]
    exact ⟨rfl, hB.trans (hwq.mono hB.size)⟩
  · refine region_grown (by kernel_rfl) (by kernel_rfl) ?_
    refine qs_move (v := (.bool true)) (by kernel_rfl) (by kernel_rfl) ?_
    refine qs_not (b := true) (by kernel_rfl) (by kernel_rfl) ?_
    refine qs_move (v := (.bool false)) (by kernel_rfl) (by kernel_rfl) ?_
    simp only [Act.put, List.setIfInBounds_toArray, List.set_cons_succ, List.set_cons_zero]
    refine qs_load_v (b := w.heap.size + 1) (s := (V.mk 5 0 0 str)) K3 (by kernel_rfl) (by kernel_rfl) ?_
    refine qs_load_v (b := w.heap.size) (s := ⟨5, num, f, str⟩) K1 (by kernel_rfl) (by kernel_rfl) ?_
    refine qs_neq_v (r := false) (V.mk 5 0 0 str) ⟨5, num, f, str⟩ (by rw [hE]; rfl) (by kernel_rfl) (by kernel_rfl) (by kernel_rfl) ?_
    simp only [Act.put, List.setIfInBounds_toArray, List.set_cons_succ, List.set_cons_zero]
    refine qs_pick (b := false) (v := (.bool false)) (by kernel_rfl) (by kernel_rfl) (by kernel_rfl) ?_
    refine qs_move (v := (.bool false)) (by kernel_rfl) (by kernel_rfl) ?_
    refine qs_field (b := w.heap.size + 1) (o := 0) (off := 2) fld2 (by kernel_rfl) (by kernel_rfl) ?_
    simp only [Act.put, List.setIfInBounds_toArray, List.set_cons_succ, List.set_cons_zero]
    refine qs_load_cell (b := w.heap.size + 1) (o := 2) (u := .float .f64 (0)) K3 rfl (by kernel_rfl) aggF (by kernel_rfl) ?_
    refine qs_call (v := .bool (sb (0))) fnSign (by kernel_rfl) (vs := #[.float .f64 (0)]) (by kernel_rfl) (fun w1 hw1 => (sign_calls (0) (by omega) w1).mono fun _ _ ⟨he, hb⟩ => ⟨he, hb ▸ hw1⟩) ?_
    refine qs_field (b := w.heap.size) (o := 0) (off := 2) fld2 (by kernel_rfl) (by kernel_rfl) ?_
    simp only [Act.put, List.setIfInBounds_toArray, List.set_cons_succ, List.set_cons_zero]
    refine qs_load_cell (b := w.heap.size) (o := 2) (u := .float .f64 f) K1 rfl (by kernel_rfl) aggF (by kernel_rfl) ?_
    refine qs_call (v := .bool (sb f)) fnSign (by kernel_rfl) (vs := #[.float .f64 f]) (by kernel_rfl) (fun w1 hw1 => (sign_calls f hf w1).mono fun _ _ ⟨he, hb⟩ => ⟨he, hb ▸ hw1⟩) ?_
    refine qs_neq_bool (b := sb (0)) (c := sb f) Tryd.underlying4 (by kernel_rfl) (by kernel_rfl) (by kernel_rfl) ?_
    simp only [Act.put, List.setIfInBounds_toArray, List.set_cons_succ, List.set_cons_zero]
    refine qs_pick (b := false) (v := (.bool (sb (0) != sb f))) (by kernel_rfl) (by kernel_rfl) (by kernel_rfl) ?_
    refine wpQuiet_nil ?_
    intro wq hwq
    simp only [Act.put, Exit.then, List.setIfInBounds_toArray, List.set_cons_succ, List.set_cons_zero]
    cases hS : (sb (0) != sb f)
    · go_wp2_with fail
      go_ret
      rw [← HN.out, ← HR.out, show (sb (0) == sb f) = true from by cases q : (sb (0) == sb f) with | true => rfl | false => (unfold bne at hS; rw [q] at hS; cases hS)]
      exact ⟨rfl, hB.trans (hwq.mono hB.size)⟩
    · go_wp2_with fail
      go_ret
      rw [← HN.out, ← HR.out, show (sb (0) == sb f) = false from by cases q : (sb (0) == sb f) with | false => rfl | true => (unfold bne at hS; rw [q] at hS; cases hS)]
      exact ⟨rfl, hB.trans (hwq.mono hB.size)⟩
set_option maxRecDepth 100000 in
set_option maxHeartbeats 8000000 in
theorem r_bytesx (num : Int) (f : Nat) (str : ByteArray) (w : World) (h1 : ¬ str.size ≤ 1000) (hf : f < 18446744073709551616) (hs : str.size ≤ 9223372036854775807) :
    Calls Tryd.prog 13 #[.agg (V.mk 5 num f str).cells.toArray] w fun e w' => e = .returned (.int .i64 (if rightR ⟨5, num, f, str⟩ = true then 0 else 30)) ∧ Below w.heap.size w w' := by
  obtain ⟨N, hN⟩ : ∃ N, (if rightR ⟨5, num, f, str⟩ = true then (0 : Int) else 30) = N := ⟨_, rfl⟩
  rw [hN]
  obtain ⟨R, hR⟩ : ∃ R, rightR ⟨5, num, f, str⟩ = R := ⟨_, rfl⟩
  have HN := Lib.hid hN
  rw [hR] at HN
  clear hN
  have q1 : ¬ (str.size : Int) ≤ 1000 := by omega
  have HR : Hid (false = R) := Lib.hid (by rw [← hR]; simp [rightR, h1])
  clear hR
  go_enter Tryd.func13, Tryd.ntmps13
  go_wp2_with (first | ((with_reducible refine pl_boxw (s := ⟨5, num, f, str⟩) ?_ ?_); (· rfl); intro w1 K1 hB hz1; obtain ⟨c0, c1, c2, c3⟩ := v_cells K1) | ((with_reducible refine pl_build_k (kd := 5) ?_ ?_ ?_); (· rfl); (· rfl)) | ((with_reducible refine pl_allocw (b := w.heap.size + 1) hz1 ?_ ?_); (· rfl); intro w2 K3 far2 up2; replace K1 := far2 _ _ _ K1; replace hB := up2 _ _ (by omega) hB; clear c0 c1 c2 c3; obtain ⟨c0, c1, c2, c3⟩ := v_cells K1) | ((with_reducible refine pl_storew (o := v0) (s := ⟨5, 0, 0, ⟨#[]⟩⟩) K3 ?_ ?_ ?_ ?_); (· rfl); (· rfl); (· rfl); clear K3; intro w3 K3 far2 up2; replace K1 := far2 _ _ _ (by omega) K1; replace hB := up2 _ _ (by omega) hB; clear c0 c1 c2 c3; obtain ⟨c0, c1, c2, c3⟩ := v_cells K1) | ((with_reducible refine pl_put (i := 3) (u := .string str) K3 (by omega) (oneS _) ?_ infoS (cellsS _) ?_ ?_ ?_); (· rfl); (· rfl); (· rfl); clear K3; intro w4 K3 far2 up2; replace K3 : Blk w4 (w.heap.size + 1) (V.cells ⟨5, 0, 0, str⟩).toArray 27 := K3; replace K1 := far2 _ _ _ (by omega) K1; replace hB := up2 _ _ (by omega) hB; clear c0 c1 c2 c3; obtain ⟨c0, c1, c2, c3⟩ := v_cells K1))
  refine region_grown (by kernel_rfl) (by kernel_rfl) ?_
  refine qs_move (v := (.bool false)) (by kernel_rfl) (by kernel_rfl) ?_
  refine qs_not (b := false) (by kernel_rfl) (by kernel_rfl) ?_
  refine qs_move (v := (.bool true)) (by kernel_rfl) (by kernel_rfl) ?_
  simp only [Act.put, List.setIfInBounds_toArray, List.set_cons_succ, List.set_cons_zero]
  refine qs_skip (by kernel_rfl) ?_
  refine qs_skip (by kernel_rfl) ?_
  refine qs_skip (by kernel_rfl) ?_
  simp only [Act.put, List.setIfInBounds_toArray, List.set_cons_succ, List.set_cons_zero]
  refine qs_pick (b := true) (v := (.bool true)) (by kernel_rfl) (by kernel_rfl) (by kernel_rfl) ?_
  refine qs_move (v := (.bool true)) (by kernel_rfl) (by kernel_rfl) ?_
  refine qs_skip (by kernel_rfl) ?_
  simp only [Act.put, List.setIfInBounds_toArray, List.set_cons_succ, List.set_cons_zero]
  refine qs_skip (by kernel_rfl) ?_
  refine qs_skip (by kernel_rfl) ?_
  refine qs_skip (by kernel_rfl) ?_
  simp only [Act.put, List.setIfInBounds_toArray, List.set_cons_succ, List.set_cons_zero]
  refine qs_skip (by kernel_rfl) ?_
  refine qs_skip (by kernel_rfl) ?_
  refine qs_skip (by kernel_rfl) ?_
  simp only [Act.put, List.setIfInBounds_toArray, List.set_cons_succ, List.set_cons_zero]
  refine qs_pick (b := true) (v := (.bool true)) (by kernel_rfl) (by kernel_rfl) (by kernel_rfl) ?_
  refine wpQuiet_nil ?_
  intro wq hwq
  simp only [Act.put, Exit.then, List.setIfInBounds_toArray, List.set_cons_succ, List.set_cons_zero]
  go_wp2_with fail
  go_ret
  rw [← HN.out, ← HR.out]
  exact ⟨rfl, hB.trans (hwq.mono hB.size)⟩
set_option maxRecDepth 100000 in
set_option maxHeartbeats 8000000 in
theorem r_text (num : Int) (f : Nat) (str : ByteArray) (w : World) (hU : Lib.validD str.data.toList = true) (h1 : str.size ≤ 1000) (hf : f < 18446744073709551616) (hs : str.size ≤ 9223372036854775807) (hT : Tabs w) :
    Calls Tryd.prog 13 #[.agg (V.mk 4 num f str).cells.toArray] w fun e w' => e = .returned (.int .i64 (if rightR ⟨4, num, f, str⟩ = true then 0 else 30)) ∧ Below w.heap.size w w' := by
  obtain ⟨N, hN⟩ : ∃ N, (if rightR ⟨4, num, f, str⟩ = true then (0 : Int) else 30) = N := ⟨_, rfl⟩
  rw [hN]
  obtain ⟨R, hR⟩ : ∃ R, rightR ⟨4, num, f, str⟩ = R := ⟨_, rfl⟩
  have HN := Lib.hid hN
  rw [hR] at HN
  clear hN
  have q1 : (str.size : Int) ≤ 1000 := by omega
  have hV := Lib.hid (fun w1 (h : Tabs w1) => hU ▸ Tryd.utf8_ValidString str w1 (by omega) h)
  have hT2 := Lib.hid (fun w1 (hb : Below w.heap.size w w1) => Utf8Tabs_below hT hb)
  have HR : Hid ((eqV ⟨4, 0, 0, str⟩ ⟨4, num, f, str⟩ && (sb 0 == sb f)) = R) := Lib.hid (by rw [← hR, eqp_str _ _ _ hf]; simp [rightR, h1, hU])
  clear hU hT
  clear hR
  go_enter Tryd.func13, Tryd.ntmps13
  go_wp2_with (first | ((with_reducible refine pl_boxw (s := ⟨4, num, f, str⟩) ?_ ?_); (· rfl); intro w1 K1 hB hz1; obtain ⟨c0, c1, c2, c3⟩ := v_cells K1) | ((with_reducible refine pl_build_k (kd := 4) ?_ ?_ ?_); (· rfl); (· rfl)) | ((with_reducible refine pl_allocw (b := w.heap.size + 1) hz1 ?_ ?_); (· rfl); intro w2 K3 far2 up2; replace K1 := far2 _ _ _ K1; replace hB := up2 _ _ (by omega) hB; clear c0 c1 c2 c3; obtain ⟨c0, c1, c2, c3⟩ := v_cells K1) | ((with_reducible refine pl_storew (o := v0) (s := ⟨4, 0, 0, ⟨#[]⟩⟩) K3 ?_ ?_ ?_ ?_); (· rfl); (· rfl); (· rfl); clear K3; intro w3 K3 far2 up2; replace K1 := far2 _ _ _ (by omega) K1; replace hB := up2 _ _ (by omega) hB; clear c0 c1 c2 c3; obtain ⟨c0, c1, c2, c3⟩ := v_cells K1) | ((with_reducible refine pl_put (i := 3) (u := .string str) K3 (by omega) (oneS _) ?_ infoS (cellsS _) ?_ ?_ ?_); (· rfl); (· rfl); (· rfl); clear K3; intro w4 K3 far2 up2; replace K3 : Blk w4 (w.heap.size + 1) (V.cells ⟨4, 0, 0, str⟩).toArray 27 := K3; replace K1 := far2 _ _ _ (by omega) K1; replace hB := up2 _ _ (by omega) hB; clear c0 c1 c2 c3; obtain ⟨c0, c1, c2, c3⟩ := v_cells K1) | (go_at_call 48; refine (hV.out _ (hT2.out _ hB)).mono ?_; rintro e w5 ⟨rfl, hb5⟩; replace K1 := K1.below hb5 K1.lt; replace K3 := K3.below hb5 K3.lt; replace hB := hB.trans (hb5.mono hB.size); clear c0 c1 c2 c3; obtain ⟨c0, c1, c2, c3⟩ := v_cells K1))
  obtain ⟨E, hE⟩ : ∃ E, eqV (V.mk 4 0 0 str) ⟨4, num, f, str⟩ = E := ⟨_, rfl⟩
  have HR := HR
  rw [hE] at HR
  cases E
  · refine region_grown (by kernel_rfl) (by kernel_rfl) ?_
    refine qs_move (v := (.bool true)) (by kernel_rfl) (by kernel_rfl) ?_
    refine qs_not (b := true) (by kernel_rfl) (by kernel_rfl) ?_
    refine qs_move (v := (.bool false)) (by kernel_rfl) (by kernel_rfl) ?_
    simp only [Act.put, List.setIfInBounds_toArray, List.set_cons_succ, List.set_cons_zero]
    refine qs_load_v (b := w.heap.size + 1) (s := (V.mk 4 0 0 str)) K3 (by kernel_rfl) (by kernel_rfl) ?_
    refine qs_load_v (b := w.heap.size) (s := ⟨4, num, f, str⟩) K1 (by kernel_rfl) (by kernel_rfl) ?_
    refine qs_neq_v (r := true) (V.mk 4 0 0 str) ⟨4, num, f, str⟩ (by rw [hE]; rfl) (by kernel_rfl) (by kernel_rfl) (by kernel_rfl) ?_
    simp only [Act.put, List.setIfInBounds_toArray, List.set_cons_succ, List.set_cons_zero]
    refine qs_pick (b := false) (v := (.bool true)) (by kernel_rfl) (by kernel_rfl) (by kernel_rfl) ?_
    refine qs_move (v := (.bool true)) (by kernel_rfl) (by kernel_rfl) ?_
    refine qs_skip (by kernel_rfl) ?_
    simp only [Act.put, List.setIfInBounds_toArray, List.set_cons_succ, List.set_cons_zero]
    refine qs_skip (by kernel_rfl) ?_
    refine qs_skip (by kernel_rfl) ?_
    refine qs_skip (by kernel_rfl) ?_
    simp only [Act.put, List.setIfInBounds_toArray, List.set_cons_succ, List.set_cons_zero]
    refine qs_skip (by kernel_rfl) ?_
    refine qs_skip (by kernel_rfl) ?_
    refine qs_skip (by kernel_rfl) ?_
    simp only [Act.put, List.setIfInBounds_toArray, List.set_cons_succ, List.set_cons_zero]
    refine qs_pick (b := true) (v := (.bool true)) (by kernel_rfl) (by kernel_rfl) (by kernel_rfl) ?_
    refine wpQuiet_nil ?_
    intro wq hwq
    simp only [Act.put, Exit.then, List.setIfInBounds_toArray, List.set_cons_succ, List.set_cons_zero]
    go_wp2_with fail
    go_ret
    rw [← HN.out, ← HR.out]
    exact ⟨rfl, hB.trans (hwq.mono hB.size)⟩
  · refine region_grown (by kernel_rfl) (by kernel_rfl) ?_
    refine qs_move (v := (.bool true)) (by kernel_rfl) (by kernel_rfl) ?_
    refine qs_not (b := true) (by kernel_rfl) (by kernel_rfl) ?_
    refine qs_move (v := (.bool false)) (by kernel_rfl) (by kernel_rfl) ?_
    simp only [Act.put, List.setIfInBounds_toArray, List.set_cons_succ, List.set_cons_zero]
    refine qs_load_v (b := w.heap.size + 1) (s := (V.mk 4 0 0 str)) K3 (by kernel_rfl) (by kernel_rfl) ?_
    refine qs_load_v (b := w.heap.size) (s := ⟨4, num, f, str⟩) K1 (by kernel_rfl) (by kernel_rfl) ?_
    refine qs_neq_v (r := false) (V.mk 4 0 0 str) ⟨4, num, f, str⟩ (by rw [hE]; rfl) (by kernel_rfl) (by kernel_rfl) (by kernel_rfl) ?_
    simp only [Act.put, List.setIfInBounds_toArray, List.set_cons_succ, List.set_cons_zero]
    refine qs_pick (b := false) (v := (.bool false)) (by kernel_rfl) (by kernel_rfl) (by kernel_rfl) ?_
    refine qs_move (v := (.bool false)) (by kernel_rfl) (by kernel_rfl) ?_
    refine qs_field (b := w.heap.size + 1) (o := 0) (off := 2) fld2 (by kernel_rfl) (by kernel_rfl) ?_
    simp only [Act.put, List.setIfInBounds_toArray, List.set_cons_succ, List.set_cons_zero]
    refine qs_load_cell (b := w.heap.size + 1) (o := 2) (u := .float .f64 (0)) K3 rfl (by kernel_rfl) aggF (by kernel_rfl) ?_
    refine qs_call (v := .bool (sb (0))) fnSign (by kernel_rfl) (vs := #[.float .f64 (0)]) (by kernel_rfl) (fun w1 hw1 => (sign_calls (0) (by omega) w1).mono fun _ _ ⟨he, hb⟩ => ⟨he, hb ▸ hw1⟩) ?_
    refine qs_field (b := w.heap.size) (o := 0) (off := 2) fld2 (by kernel_rfl) (by kernel_rfl) ?_
    simp only [Act.put, List.setIfInBounds_toArray, List.set_cons_succ, List.set_cons_zero]
    refine qs_load_cell (b := w.heap.size) (o := 2) (u := .float .f64 f) K1 rfl (by kernel_rfl) aggF (by kernel_rfl) ?_
    refine qs_call (v := .bool (sb f)) fnSign (by kernel_rfl) (vs := #[.float .f64 f]) (by kernel_rfl) (fun w1 hw1 => (sign_calls f hf w1).mono fun _ _ ⟨he, hb⟩ => ⟨he, hb ▸ hw1⟩) ?_
    refine qs_neq_bool (b := sb (0)) (c := sb f) Tryd.underlying4 (by kernel_rfl) (by kernel_rfl) (by kernel_rfl) ?_
    simp only [Act.put, List.setIfInBounds_toArray, List.set_cons_succ, List.set_cons_zero]
    refine qs_pick (b := false) (v := (.bool (sb (0) != sb f))) (by kernel_rfl) (by kernel_rfl) (by kernel_rfl) ?_
    refine wpQuiet_nil ?_
    intro wq hwq
    simp only [Act.put, Exit.then, List.setIfInBounds_toArray, List.set_cons_succ, List.set_cons_zero]
    cases hS : (sb (0) != sb f)
    · go_wp2_with fail
      go_ret
      rw [← HN.out, ← HR.out, show (sb (0) == sb f) = true from by cases q : (sb (0) == sb f) with | true => rfl | false => (unfold bne at hS; rw [q] at hS; cases hS)]
      exact ⟨rfl, hB.trans (hwq.mono hB.size)⟩
    · go_wp2_with fail
      go_ret
      rw [← HN.out, ← HR.out, show (sb (0) == sb f) = false from by cases q : (sb (0) == sb f) with | false => rfl | true => (unfold bne at hS; rw [q] at hS; cases hS)]
      exact ⟨rfl, hB.trans (hwq.mono hB.size)⟩
set_option maxRecDepth 100000 in
set_option maxHeartbeats 8000000 in
theorem r_textl (num : Int) (f : Nat) (str : ByteArray) (w : World) (hU : Lib.validD str.data.toList = true) (h1 : ¬ str.size ≤ 1000) (hf : f < 18446744073709551616) (hs : str.size ≤ 9223372036854775807) (hT : Tabs w) :
    Calls Tryd.prog 13 #[.agg (V.mk 4 num f str).cells.toArray] w fun e w' => e = .returned (.int .i64 (if rightR ⟨4, num, f, str⟩ = true then 0 else 30)) ∧ Below w.heap.size w w' := by
  obtain ⟨N, hN⟩ : ∃ N, (if rightR ⟨4, num, f, str⟩ = true then (0 : Int) else 30) = N := ⟨_, rfl⟩
  rw [hN]
  obtain ⟨R, hR⟩ : ∃ R, rightR ⟨4, num, f, str⟩ = R := ⟨_, rfl⟩
  have HN := Lib.hid hN
  rw [hR] at HN
  clear hN
  have q1 : ¬ (str.size : Int) ≤ 1000 := by omega
  have q2 : decide ((str.size : Int) ≤ 1000) = false := decide_eq_false q1
  have hV := Lib.hid (fun w1 (h : Tabs w1) => hU ▸ Tryd.utf8_ValidString str w1 (by omega) h)
  have hT2 := Lib.hid (fun w1 (hb : Below w.heap.size w w1) => Utf8Tabs_below hT hb)
  have HR : Hid (false = R) := Lib.hid (by rw [← hR]; simp [rightR, h1, hU])
  clear hU hT
  clear hR
  go_enter Tryd.func13, Tryd.ntmps13
  go_wp2_with (first | ((with_reducible refine pl_boxw (s := ⟨4, num, f, str⟩) ?_ ?_); (· rfl); intro w1 K1 hB hz1; obtain ⟨c0, c1, c2, c3⟩ := v_cells K1) | ((with_reducible refine pl_build_k (kd := 4) ?_ ?_ ?_); (· rfl); (· rfl)) | ((with_reducible refine pl_allocw (b := w.heap.size + 1) hz1 ?_ ?_); (· rfl); intro w2 K3 far2 up2; replace K1 := far2 _ _ _ K1; replace hB := up2 _ _ (by omega) hB; clear c0 c1 c2 c3; obtain ⟨c0, c1, c2, c3⟩ := v_cells K1) | ((with_reducible refine pl_storew (o := v0) (s := ⟨4, 0, 0, ⟨#[]⟩⟩) K3 ?_ ?_ ?_ ?_); (· rfl); (· rfl); (· rfl); clear K3; intro w3 K3 far2 up2; replace K1 := far2 _ _ _ (by omega) K1; replace hB := up2 _ _ (by omega) hB; clear c0 c1 c2 c3; obtain ⟨c0, c1, c2, c3⟩ := v_cells K1) | ((with_reducible refine pl_put (i := 3) (u := .string str) K3 (by omega) (oneS _) ?_ infoS (cellsS _) ?_ ?_ ?_); (· rfl); (· rfl); (· rfl); clear K3; intro w4 K3 far2 up2; replace K3 : Blk w4 (w.heap.size + 1) (V.cells ⟨4, 0, 0, str⟩).toArray 27 := K3; replace K1 := far2 _ _ _ (by omega) K1; replace hB := up2 _ _ (by omega) hB; clear c0 c1 c2 c3; obtain ⟨c0, c1, c2, c3⟩ := v_cells K1) | (go_at_call 48; refine (hV.out _ (hT2.out _ hB)).mono ?_; rintro e w5 ⟨rfl, hb5⟩; replace K1 := K1.below hb5 K1.lt; replace K3 := K3.below hb5 K3.lt; replace hB := hB.trans (hb5.mono hB.size); clear c0 c1 c2 c3; obtain ⟨c0, c1, c2, c3⟩ := v_cells K1))
  refine region_grown (by kernel_rfl) (by kernel_rfl) ?_
  refine qs_move (v := (.bool false)) (by kernel_rfl) (by kernel_rfl) ?_
  refine qs_not (b := false) (by kernel_rfl) (by kernel_rfl) ?_
  refine qs_move (v := (.bool true)) (by kernel_rfl) (by kernel_rfl) ?_
  simp only [Act.put, List.setIfInBounds_toArray, List.set_cons_succ, List.set_cons_zero]
  refine qs_skip (by kernel_rfl) ?_
  refine qs_skip (by kernel_rfl) ?_
  refine qs_skip (by kernel_rfl) ?_
  simp only [Act.put, List.setIfInBounds_toArray, List.set_cons_succ, List.set_cons_zero]
  refine qs_pick (b := true) (v := (.bool true)) (by kernel_rfl) (by kernel_rfl) (by kernel_rfl) ?_
  refine qs_move (v := (.bool true)) (by kernel_rfl) (by kernel_rfl) ?_
  refine qs_skip (by kernel_rfl) ?_
  simp only [Act.put, List.setIfInBounds_toArray, List.set_cons_succ, List.set_cons_zero]
  refine qs_skip (by kernel_rfl) ?_
  refine qs_skip (by kernel_rfl) ?_
  refine qs_skip (by kernel_rfl) ?_
  simp only [Act.put, List.setIfInBounds_toArray, List.set_cons_succ, List.set_cons_zero]
  refine qs_skip (by kernel_rfl) ?_
  refine qs_skip (by kernel_rfl) ?_
  refine qs_skip (by kernel_rfl) ?_
  simp only [Act.put, List.setIfInBounds_toArray, List.set_cons_succ, List.set_cons_zero]
  refine qs_pick (b := true) (v := (.bool true)) (by kernel_rfl) (by kernel_rfl) (by kernel_rfl) ?_
  refine wpQuiet_nil ?_
  intro wq hwq
  simp only [Act.put, Exit.then, List.setIfInBounds_toArray, List.set_cons_succ, List.set_cons_zero]
  go_wp2_with fail
  go_ret
  rw [← HN.out, ← HR.out]
  exact ⟨rfl, hB.trans (hwq.mono hB.size)⟩
set_option maxRecDepth 100000 in
set_option maxHeartbeats 8000000 in
theorem r_textx (num : Int) (f : Nat) (str : ByteArray) (w : World) (hU : Lib.validD str.data.toList = false) (hf : f < 18446744073709551616) (hs : str.size ≤ 9223372036854775807) (hT : Tabs w) :
    Calls Tryd.prog 13 #[.agg (V.mk 4 num f str).cells.toArray] w fun e w' => e = .returned (.int .i64 (if rightR ⟨4, num, f, str⟩ = true then 0 else 30)) ∧ Below w.heap.size w w' := by
  obtain ⟨N, hN⟩ : ∃ N, (if rightR ⟨4, num, f, str⟩ = true then (0 : Int) else 30) = N := ⟨_, rfl⟩
  rw [hN]
  obtain ⟨R, hR⟩ : ∃ R, rightR ⟨4, num, f, str⟩ = R := ⟨_, rfl⟩
  have HN := Lib.hid hN
  rw [hR] at HN
  clear hN
  have hV := Lib.hid (fun w1 (h : Tabs w1) => hU ▸ Tryd.utf8_ValidString str w1 (by omega) h)
  have hT2 := Lib.hid (fun w1 (hb : Below w.heap.size w w1) => Utf8Tabs_below hT hb)
  have HR : Hid (false = R) := Lib.hid (by rw [← hR]; simp [rightR, hU])
  clear hU hT
  clear hR
  go_enter Tryd.func13, Tryd.ntmps13
  go_wp2_with (first | ((with_reducible refine pl_boxw (s := ⟨4, num, f, str⟩) ?_ ?_); (· rfl); intro w1 K1 hB hz1; obtain ⟨c0, c1, c2, c3⟩ := v_cells K1) | ((with_reducible refine pl_build_k (kd := 4) ?_ ?_ ?_); (· rfl); (· rfl)) | ((with_reducible refine pl_allocw (b := w.heap.size + 1) hz1 ?_ ?_); (· rfl); intro w2 K3 far2 up2; replace K1 := far2 _ _ _ K1; replace hB := up2 _ _ (by omega) hB; clear c0 c1 c2 c3; obtain ⟨c0, c1, c2, c3⟩ := v_cells K1) | ((with_reducible refine pl_storew (o := v0) (s := ⟨4, 0, 0, ⟨#[]⟩⟩) K3 ?_ ?_ ?_ ?_); (· rfl); (· rfl); (· rfl); clear K3; intro w3 K3 far2 up2; replace K1 := far2 _ _ _ (by omega) K1; replace hB := up2 _ _ (by omega) hB; clear c0 c1 c2 c3; obtain ⟨c0, c1, c2, c3⟩ := v_cells K1) | ((with_reducible refine pl_put (i := 3) (u := .string str) K3 (by omega) (oneS _) ?_ infoS (cellsS _) ?_ ?_ ?_); (· rfl); (· rfl); (· rfl); clear K3; intro w4 K3 far2 up2; replace K3 : Blk w4 (w.heap.size + 1) (V.cells ⟨4, 0, 0, str⟩).toArray 27 := K3; replace K1 := far2 _ _ _ (by omega) K1; replace hB := up2 _ _ (by omega) hB; clear c0 c1 c2 c3; obtain ⟨c0, c1, c2, c3⟩ := v_cells K1) | (go_at_call 48; refine (hV.out _ (hT2.out _ hB)).mono ?_; rintro e w5 ⟨rfl, hb5⟩; replace K1 := K1.below hb5 K1.lt; replace K3 := K3.below hb5 K3.lt; replace hB := hB.trans (hb5.mono hB.size); clear c0 c1 c2 c3; obtain ⟨c0, c1, c2, c3⟩ := v_cells K1))
  refine region_grown (by kernel_rfl) (by kernel_rfl) ?_
  refine qs_move (v := (.bool false)) (by kernel_rfl) (by kernel_rfl) ?_
  refine qs_not (b := false) (by kernel_rfl) (by kernel_rfl) ?_
  refine qs_move (v := (.bool true)) (by kernel_rfl) (by kernel_rfl) ?_
  simp only [Act.put, List.setIfInBounds_toArray, List.set_cons_succ, List.set_cons_zero]
  refine qs_skip (by kernel_rfl) ?_
  refine qs_skip (by kernel_rfl) ?_
  refine qs_skip (by kernel_rfl) ?_
  simp only [Act.put, List.setIfInBounds_toArray, List.set_cons_succ, List.set_cons_zero]
  refine qs_pick (b := true) (v := (.bool true)) (by kernel_rfl) (by kernel_rfl) (by kernel_rfl) ?_
  refine qs_move (v := (.bool true)) (by kernel_rfl) (by kernel_rfl) ?_
  refine qs_skip (by kernel_rfl) ?_
  simp only [Act.put, List.setIfInBounds_toArray, List.set_cons_succ, List.set_cons_zero]
  refine qs_skip (by kernel_rfl) ?_
  refine qs_skip (by kernel_rfl) ?_
  refine qs_skip (by kernel_rfl) ?_
  simp only [Act.put, List.setIfInBounds_toArray, List.set_cons_succ, List.set_cons_zero]
  refine qs_skip (by kernel_rfl) ?_
  refine qs_skip (by kernel_rfl) ?_
  refine qs_skip (by kernel_rfl) ?_
  simp only [Act.put, List.setIfInBounds_toArray, List.set_cons_succ, List.set_cons_zero]
  refine qs_pick (b := true) (v := (.bool true)) (by kernel_rfl) (by kernel_rfl) (by kernel_rfl) ?_
  refine wpQuiet_nil ?_
  intro wq hwq
  simp only [Act.put, Exit.then, List.setIfInBounds_toArray, List.set_cons_succ, List.set_cons_zero]
  go_wp2_with fail
  go_ret
  rw [← HN.out, ← HR.out]
  exact ⟨rfl, hB.trans (hwq.mono hB.size)⟩
set_option maxRecDepth 100000 in
set_option maxHeartbeats 8000000 in
theorem r_inf (num : Int) (f : Nat) (str : ByteArray) (w : World) (hA : inf f = true) (hf : f < 18446744073709551616) (hs : str.size ≤ 9223372036854775807) :
    Calls Tryd.prog 13 #[.agg (V.mk 3 num f str).cells.toArray] w fun e w' => e = .returned (.int .i64 (if rightR ⟨3, num, f, str⟩ = true then 0 else 30)) ∧ Below w.heap.size w w' := by
  obtain ⟨N, hN⟩ : ∃ N, (if rightR ⟨3, num, f, str⟩ = true then (0 : Int) else 30) = N := ⟨_, rfl⟩
  rw [hN]
  obtain ⟨R, hR⟩ : ∃ R, rightR ⟨3, num, f, str⟩ = R := ⟨_, rfl⟩
  have HN := Lib.hid hN
  rw [hR] at HN
  clear hN
  have cI := Lib.hid (fun w1 : World => hA ▸ isInf_calls f hf w1)
  have HR : Hid (false = R) := Lib.hid (by rw [← hR, right_float, ← fl_right f hf, hA]; cases (num == 0) <;> cases str.toList.isEmpty <;> rfl)
  clear hA
  clear hR
  go_enter Tryd.func13, Tryd.ntmps13
  go_wp2_with (first | ((with_reducible refine pl_boxw (s := ⟨3, num, f, str⟩) ?_ ?_); (· rfl); intro w1 K1 hB hz1; obtain ⟨c0, c1, c2, c3⟩ := v_cells K1) | ((with_reducible refine pl_build_k (kd := 3) ?_ ?_ ?_); (· rfl); (· rfl)) | ((with_reducible refine pl_allocw (b := w.heap.size + 1) hz1 ?_ ?_); (· rfl); intro w2 K3 far2 up2; replace K1 := far2 _ _ _ K1; replace hB := up2 _ _ (by omega) hB; clear c0 c1 c2 c3; obtain ⟨c0, c1, c2, c3⟩ := v_cells K1) | ((with_reducible refine pl_storew (o := v0) (s := ⟨3, 0, 0, ⟨#[]⟩⟩) K3 ?_ ?_ ?_ ?_); (· rfl); (· rfl); (· rfl); clear K3; intro w3 K3 far2 up2; replace K1 := far2 _ _ _ (by omega) K1; replace hB := up2 _ _ (by omega) hB; clear c0 c1 c2 c3; obtain ⟨c0, c1, c2, c3⟩ := v_cells K1) | ((with_reducible refine pl_put (i := 2) (u := .float .f64 f) K3 (by omega) (oneF _) ?_ infoF (cellsF _) ?_ ?_ ?_); (· rfl); (· rfl); (· rfl); clear K3; intro w4 K3 far2 up2; replace K3 : Blk w4 (w.heap.size + 1) (V.cells ⟨3, 0, f, ⟨#[]⟩⟩).toArray 27 := K3; replace K1 := far2 _ _ _ (by omega) K1; replace hB := up2 _ _ (by omega) hB; clear c0 c1 c2 c3; obtain ⟨c0, c1, c2, c3⟩ := v_cells K1) | (go_at_call 53; refine (cI.out _).mono ?_; rintro e w5 ⟨rfl, rfl⟩))
  refine region_grown (by kernel_rfl) (by kernel_rfl) ?_
  refine qs_move (v := (.bool false)) (by kernel_rfl) (by kernel_rfl) ?_
  refine qs_not (b := false) (by kernel_rfl) (by kernel_rfl) ?_
  refine qs_move (v := (.bool true)) (by kernel_rfl) (by kernel_rfl) ?_
  simp only [Act.put, List.setIfInBounds_toArray, List.set_cons_succ, List.set_cons_zero]
  refine qs_skip (by kernel_rfl) ?_
  refine qs_skip (by kernel_rfl) ?_
  refine qs_skip (by kernel_rfl) ?_
  simp only [Act.put, List.setIfInBounds_toArray, List.set_cons_succ, List.set_cons_zero]
  refine qs_pick (b := true) (v := (.bool true)) (by kernel_rfl) (by kernel_rfl) (by kernel_rfl) ?_
  refine qs_move (v := (.bool true)) (by kernel_rfl) (by kernel_rfl) ?_
  refine qs_skip (by kernel_rfl) ?_
  simp only [Act.put, List.setIfInBounds_toArray, List.set_cons_succ, List.set_cons_zero]
  refine qs_skip (by kernel_rfl) ?_
  refine qs_skip (by kernel_rfl) ?_
  refine qs_skip (by kernel_rfl) ?_
  simp only [Act.put, List.setIfInBounds_toArray, List.set_cons_succ, List.set_cons_zero]
  refine qs_skip (by kernel_rfl) ?_
  refine qs_skip (by kernel_rfl) ?_
  refine qs_skip (by kernel_rfl) ?_
  simp only [Act.put, List.setIfInBounds_toArray, List.set_cons_succ, List.set_cons_zero]
  refine qs_pick (b := true) (v := (.bool true)) (by kernel_rfl) (by kernel_rfl) (by kernel_rfl) ?_
  refine wpQuiet_nil ?_
  intro wq hwq
  simp only [Act.put, Exit.then, List.setIfInBounds_toArray, List.set_cons_succ, List.set_cons_zero]
  go_wp2_with fail
  go_ret
  rw [← HN.out, ← HR.out]
  exact ⟨rfl, hB.trans (hwq.mono hB.size)⟩
set_option maxRecDepth 100000 in
set_option maxHeartbeats 8000000 in
theorem r_nan (num : Int) (f : Nat) (str : ByteArray) (w : World) (hA : inf f = false) (hC : nan f = true) (hf : f < 18446744073709551616) (hs : str.size ≤ 9223372036854775807) :
    Calls Tryd.prog 13 #[.agg (V.mk 3 num f str).cells.toArray] w fun e w' => e = .returned (.int .i64 (if rightR ⟨3, num, f, str⟩ = true then 0 else 30)) ∧ Below w.heap.size w w' := by
  obtain ⟨N, hN⟩ : ∃ N, (if rightR ⟨3, num, f, str⟩ = true then (0 : Int) else 30) = N := ⟨_, rfl⟩
  rw [hN]
  obtain ⟨R, hR⟩ : ∃ R, rightR ⟨3, num, f, str⟩ = R := ⟨_, rfl⟩
  have HN := Lib.hid hN
  rw [hR] at HN
  clear hN
  have cI := Lib.hid (fun w1 : World => hA ▸ isInf_calls f hf w1)
  have cN := Lib.hid (fun w1 : World => hC ▸ isNaN_calls f w1)
  have HR : Hid (false = R) := Lib.hid (by rw [← hR, right_float, ← fl_right f hf, hA, hC]; cases (num == 0) <;> cases str.toList.isEmpty <;> rfl)
  clear hA hC
  clear hR
  go_enter Tryd.func13, Tryd.ntmps13
  go_wp2_with (first | ((with_reducible refine pl_boxw (s := ⟨3, num, f, str⟩) ?_ ?_); (· rfl); intro w1 K1 hB hz1; obtain ⟨c0, c1, c2, c3⟩ := v_cells K1) | ((with_reducible refine pl_build_k (kd := 3) ?_ ?_ ?_); (· rfl); (· rfl)) | ((with_reducible refine pl_allocw (b := w.heap.size + 1) hz1 ?_ ?_); (· rfl); intro w2 K3 far2 up2; replace K1 := far2 _ _ _ K1; replace hB := up2 _ _ (by omega) hB; clear c0 c1 c2 c3; obtain ⟨c0, c1, c2, c3⟩ := v_cells K1) | ((with_reducible refine pl_storew (o := v0) (s := ⟨3, 0, 0, ⟨#[]⟩⟩) K3 ?_ ?_ ?_ ?_); (· rfl); (· rfl); (· rfl); clear K3; intro w3 K3 far2 up2; replace K1 := far2 _ _ _ (by omega) K1; replace hB := up2 _ _ (by omega) hB; clear c0 c1 c2 c3; obtain ⟨c0, c1, c2, c3⟩ := v_cells K1) | ((with_reducible refine pl_put (i := 2) (u := .float .f64 f) K3 (by omega) (oneF _) ?_ infoF (cellsF _) ?_ ?_ ?_); (· rfl); (· rfl); (· rfl); clear K3; intro w4 K3 far2 up2; replace K3 : Blk w4 (w.heap.size + 1) (V.cells ⟨3, 0, f, ⟨#[]⟩⟩).toArray 27 := K3; replace K1 := far2 _ _ _ (by omega) K1; replace hB := up2 _ _ (by omega) hB; clear c0 c1 c2 c3; obtain ⟨c0, c1, c2, c3⟩ := v_cells K1) | (go_at_call 53; refine (cI.out _).mono ?_; rintro e w5 ⟨rfl, rfl⟩) | (go_at_call 54; refine (cN.out _).mono ?_; rintro e w5 ⟨rfl, rfl⟩))
  refine region_grown (by kernel_rfl) (by kernel_rfl) ?_
  refine qs_move (v := (.bool false)) (by kernel_rfl) (by kernel_rfl) ?_
  refine qs_not (b := false) (by kernel_rfl) (by kernel_rfl) ?_
  refine qs_move (v := (.bool true)) (by kernel_rfl) (by kernel_rfl) ?_
  simp only [Act.put, List.setIfInBounds_toArray, List.set_cons_succ, List.set_cons_zero]
  refine qs_skip (by kernel_rfl) ?_
  refine qs_skip (by kernel_rfl) ?_
  refine qs_skip (by kernel_rfl) ?_
  simp only [Act.put, List.setIfInBounds_toArray, List.set_cons_succ, List.set_cons_zero]
  refine qs_pick (b := true) (v := (.bool true)) (by kernel_rfl) (by kernel_rfl) (by kernel_rfl) ?_
  refine qs_move (v := (.bool true)) (by kernel_rfl) (by kernel_rfl) ?_
  refine qs_skip (by kernel_rfl) ?_
  simp only [Act.put, List.setIfInBounds_toArray, List.set_cons_succ, List.set_cons_zero]
  refine qs_skip (by kernel_rfl) ?_
  refine qs_skip (by kernel_rfl) ?_
  refine qs_skip (by kernel_rfl) ?_
  simp only [Act.put, List.setIfInBounds_toArray, List.set_cons_succ, List.set_cons_zero]
  refine qs_skip (by kernel_rfl) ?_
  refine qs_skip (by kernel_rfl) ?_
  refine qs_skip (by kernel_rfl) ?_
  simp only [Act.put, List.setIfInBounds_toArray, List.set_cons_succ, List.set_cons_zero]
  refine qs_pick (b := true) (v := (.bool true)) (by kernel_rfl) (by kernel_rfl) (by kernel_rfl) ?_
  refine wpQuiet_nil ?_
  intro wq hwq
  simp only [Act.put, Exit.then, List.setIfInBounds_toArray, List.set_cons_succ, List.set_cons_zero]
  go_wp2_with fail
  go_ret
  rw [← HN.out, ← HR.out]
  exact ⟨rfl, hB.trans (hwq.mono hB.size)⟩
set_option maxRecDepth 100000 in
set_option maxHeartbeats 8000000 in
theorem r_fl (num : Int) (f : Nat) (str : ByteArray) (w : World) (hA : inf f = false) (hC : nan f = false) (hq : feq f 0 = false) (hf : f < 18446744073709551616) (hs : str.size ≤ 9223372036854775807) :
    Calls Tryd.prog 13 #[.agg (V.mk 3 num f str).cells.toArray] w fun e w' => e = .returned (.int .i64 (if rightR ⟨3, num, f, str⟩ = true then 0 else 30)) ∧ Below w.heap.size w w' := by
  obtain ⟨N, hN⟩ : ∃ N, (if rightR ⟨3, num, f, str⟩ = true then (0 : Int) else 30) = N := ⟨_, rfl⟩
  rw [hN]
  obtain ⟨R, hR⟩ : ∃ R, rightR ⟨3, num, f, str⟩ = R := ⟨_, rfl⟩
  have HN := Lib.hid hN
  rw [hR] at HN
  clear hN
  have cI := Lib.hid (fun w1 : World => hA ▸ isInf_calls f hf w1)
  have cN := Lib.hid (fun w1 : World => hC ▸ isNaN_calls f w1)
  have hq2 : (Ieee.double.order f 0 != some Ordering.eq) = true := by unfold feq at hq; unfold bne; rw [hq]; rfl
  have hq3 : (FloatKind.f64.format.order f 0 != some Ordering.eq) = true := hq2
  have hq4 : ¬ (FloatKind.f64.format.order f 0 = some Ordering.eq) := fun e => by rw [e] at hq3; cases hq3
  have HR : Hid ((eqV ⟨3, 0, f, ⟨#[]⟩⟩ ⟨3, num, f, str⟩ && (sb f == sb f)) = R) := Lib.hid (by rw [← hR, eqp_fl _ _ _ hf, right_float, ← fl_right f hf, hA, hC, hq]; cases (num == 0) <;> cases str.toList.isEmpty <;> rfl)
  clear hA hC hq
  clear hR
  go_enter Tryd.func13, Tryd.ntmps13
  go_wp2_with (first | ((with_reducible refine pl_boxw (s := ⟨3, num, f, str⟩) ?_ ?_); (· rfl); intro w1 K1 hB hz1; obtain ⟨c0, c1, c2, c3⟩ := v_cells K1) | ((with_reducible refine pl_build_k (kd := 3) ?_ ?_ ?_); (· rfl); (· rfl)) | ((with_reducible refine pl_allocw (b := w.heap.size + 1) hz1 ?_ ?_); (· rfl); intro w2 K3 far2 up2; replace K1 := far2 _ _ _ K1; replace hB := up2 _ _ (by omega) hB; clear c0 c1 c2 c3; obtain ⟨c0, c1, c2, c3⟩ := v_cells K1) | ((with_reducible refine pl_storew (o := v0) (s := ⟨3, 0, 0, ⟨#[]⟩⟩) K3 ?_ ?_ ?_ ?_); (· rfl); (· rfl); (· rfl); clear K3; intro w3 K3 far2 up2; replace K1 := far2 _ _ _ (by omega) K1; replace hB := up2 _ _ (by omega) hB; clear c0 c1 c2 c3; obtain ⟨c0, c1, c2, c3⟩ := v_cells K1) | ((with_reducible refine pl_put (i := 2) (u := .float .f64 f) K3 (by omega) (oneF _) ?_ infoF (cellsF _) ?_ ?_ ?_); (· rfl); (· rfl); (· rfl); clear K3; intro w4 K3 far2 up2; replace K3 : Blk w4 (w.heap.size + 1) (V.cells ⟨3, 0, f, ⟨#[]⟩⟩).toArray 27 := K3; replace K1 := far2 _ _ _ (by omega) K1; replace hB := up2 _ _ (by omega) hB; clear c0 c1 c2 c3; obtain ⟨c0, c1, c2, c3⟩ := v_cells K1) | (go_at_call 53; refine (cI.out _).mono ?_; rintro e w5 ⟨rfl, rfl⟩) | (go_at_call 54; refine (cN.out _).mono ?_; rintro e w5 ⟨rfl, rfl⟩))
  obtain ⟨E, hE⟩ : ∃ E, eqV (V.mk 3 0 f ⟨#[]⟩) ⟨3, num, f, str⟩ = E := ⟨_, rfl⟩
  have HR := HR
  rw [hE] at HR
  cases E
  · refine region_grown (by kernel_rfl) (by kernel_rfl) ?_
    refine qs_move (v := (.bool true)) (by kernel_rfl) (by kernel_rfl) ?_
    refine qs_not (b := true) (by kernel_rfl) (by kernel_rfl) ?_
    refine qs_move (v := (.bool false)) (by kernel_rfl) (by kernel_rfl) ?_
    simp only [Act.put, List.setIfInBounds_toArray, List.set_cons_succ, List.set_cons_zero]
    refine qs_load_v (b := w.heap.size + 1) (s := (V.mk 3 0 f ⟨#[]⟩)) K3 (by kernel_rfl) (by kernel_rfl) ?_
    refine qs_load_v (b := w.heap.size) (s := ⟨3, num, f, str⟩) K1 (by kernel_rfl) (by kernel_rfl) ?_
    refine qs_neq_v (r := true) (V.mk 3 0 f ⟨#[]⟩) ⟨3, num, f, str⟩ (by rw [hE]; rfl) (by kernel_rfl) (by kernel_rfl) (by kernel_rfl) ?_
    simp only [Act.put, List.setIfInBounds_toArray, List.set_cons_succ, List.set_cons_zero]
    refine qs_pick (b := false) (v := (.bool true)) (by kernel_rfl) (by kernel_rfl) (by kernel_rfl) ?_
    refine qs_move (v := (.bool true)) (by kernel_rfl) (by kernel_rfl) ?_
    refine qs_skip (by kernel_rfl) ?_
    simp only [Act.put, List.setIfInBounds_toArray, List.set_cons_succ, List.set_cons_zero]
    refine qs_skip (by kernel_rfl) ?_
    refine qs_skip (by kernel_rfl) ?_
    refine qs_skip (by kernel_rfl) ?_
    simp only [Act.put, List.setIfInBounds_toArray, List.set_cons_succ, List.set_cons_zero]
    refine qs_skip (by kernel_rfl) ?_
    refine qs_skip (by kernel_rfl) ?_
    refine qs_skip (by kernel_rfl) ?_
    simp only [Act.put, List.setIfInBounds_toArray, List.set_cons_succ, List.set_cons_zero]
    refine qs_pick (b := true) (v := (.bool true)) (by kernel_rfl) (by kernel_rfl) (by kernel_rfl) ?_
    refine wpQuiet_nil ?_
    intro wq hwq
    simp only [Act.put, Exit.then, List.setIfInBounds_toArray, List.set_cons_succ, List.set_cons_zero]
    go_wp2_with fail
    go_ret
    rw [← HN.out, ← HR.out]
    exact ⟨rfl, hB.trans (hwq.mono hB.size)⟩
  · refine region_grown (by kernel_rfl) (by kernel_rfl) ?_
    refine qs_move (v := (.bool true)) (by kernel_rfl) (by kernel_rfl) ?_
    refine qs_not (b := true) (by kernel_rfl) (by kernel_rfl) ?_
    refine qs_move (v := (.bool false)) (by kernel_rfl) (by kernel_rfl) ?_
    simp only [Act.put, List.setIfInBounds_toArray, List.set_cons_succ, List.set_cons_zero]
    refine qs_load_v (b := w.heap.size + 1) (s := (V.mk 3 0 f ⟨#[]⟩)) K3 (by kernel_rfl) (by kernel_rfl) ?_
    refine qs_load_v (b := w.heap.size) (s := ⟨3, num, f, str⟩) K1 (by kernel_rfl) (by kernel_rfl) ?_
    refine qs_neq_v (r := false) (V.mk 3 0 f ⟨#[]⟩) ⟨3, num, f, str⟩ (by rw [hE]; rfl) (by kernel_rfl) (by kernel_rfl) (by kernel_rfl) ?_
    simp only [Act.put, List.setIfInBounds_toArray, List.set_cons_succ, List.set_cons_zero]
    refine qs_pick (b := false) (v := (.bool false)) (by kernel_rfl) (by kernel_rfl) (by kernel_rfl) ?_
    refine qs_move (v := (.bool false)) (by kernel_rfl) (by kernel_rfl) ?_
    refine qs_field (b := w.heap.size + 1) (o := 0) (off := 2) fld2 (by kernel_rfl) (by kernel_rfl) ?_
    simp only [Act.put, List.setIfInBounds_toArray, List.set_cons_succ, List.set_cons_zero]
    refine qs_load_cell (b := w.heap.size + 1) (o := 2) (u := .float .f64 (f)) K3 rfl (by kernel_rfl) aggF (by kernel_rfl) ?_
    refine qs_call (v := .bool (sb (f))) fnSign (by kernel_rfl) (vs := #[.float .f64 (f)]) (by kernel_rfl) (fun w1 hw1 => (sign_calls (f) hf w1).mono fun _ _ ⟨he, hb⟩ => ⟨he, hb ▸ hw1⟩) ?_
    refine qs_field (b := w.heap.size) (o := 0) (off := 2) fld2 (by kernel_rfl) (by kernel_rfl) ?_
    simp only [Act.put, List.setIfInBounds_toArray, List.set_cons_succ, List.set_cons_zero]
    refine qs_load_cell (b := w.heap.size) (o := 2) (u := .float .f64 f) K1 rfl (by kernel_rfl) aggF (by kernel_rfl) ?_
    refine qs_call (v := .bool (sb f)) fnSign (by kernel_rfl) (vs := #[.float .f64 f]) (by kernel_rfl) (fun w1 hw1 => (sign_calls f hf w1).mono fun _ _ ⟨he, hb⟩ => ⟨he, hb ▸ hw1⟩) ?_
    refine qs_neq_bool (b := sb (f)) (c := sb f) Tryd.underlying4 (by kernel_rfl) (by kernel_rfl) (by kernel_rfl) ?_
    simp only [Act.put, List.setIfInBounds_toArray, List.set_cons_succ, List.set_cons_zero]
    refine qs_pick (b := false) (v := (.bool (sb (f) != sb f))) (by kernel_rfl) (by kernel_rfl) (by kernel_rfl) ?_
    refine wpQuiet_nil ?_
    intro wq hwq
    simp only [Act.put, Exit.then, List.setIfInBounds_toArray, List.set_cons_succ, List.set_cons_zero]
    cases hS : (sb (f) != sb f)
    · go_wp2_with fail
      go_ret
      rw [← HN.out, ← HR.out, show (sb (f) == sb f) = true from by cases q : (sb (f) == sb f) with | true => rfl | false => (unfold bne at hS; rw [q] at hS; cases hS)]
      exact ⟨rfl, hB.trans (hwq.mono hB.size)⟩
    · go_wp2_with fail
      go_ret
      rw [← HN.out, ← HR.out, show (sb (f) == sb f) = false from by cases q : (sb (f) == sb f) with | false => rfl | true => (unfold bne at hS; rw [q] at hS; cases hS)]
      exact ⟨rfl, hB.trans (hwq.mono hB.size)⟩
set_option maxRecDepth 100000 in
set_option maxHeartbeats 8000000 in
theorem r_fl0 (num : Int) (f : Nat) (str : ByteArray) (w : World) (hA : inf f = false) (hC : nan f = false) (hq : feq f 0 = true) (hS : sb f = false) (hf : f < 18446744073709551616) (hs : str.size ≤ 9223372036854775807) :
    Calls Tryd.prog 13 #[.agg (V.mk 3 num f str).cells.toArray] w fun e w' => e = .returned (.int .i64 (if rightR ⟨3, num, f, str⟩ = true then 0 else 30)) ∧ Below w.heap.size w w' := by
  obtain ⟨N, hN⟩ : ∃ N, (if rightR ⟨3, num, f, str⟩ = true then (0 : Int) else 30) = N := ⟨_, rfl⟩
  rw [hN]
  obtain ⟨R, hR⟩ : ∃ R, rightR ⟨3, num, f, str⟩ = R := ⟨_, rfl⟩
  have HN := Lib.hid hN
  rw [hR] at HN
  clear hN
  have cI := Lib.hid (fun w1 : World => hA ▸ isInf_calls f hf w1)
  have cN := Lib.hid (fun w1 : World => hC ▸ isNaN_calls f w1)
  have cS := Lib.hid (fun w1 : World => hS ▸ sign_calls f hf w1)
  have hq2 : (Ieee.double.order f 0 != some Ordering.eq) = false := by unfold feq at hq; unfold bne; rw [hq]; rfl
  have hq3 : (FloatKind.f64.format.order f 0 != some Ordering.eq) = false := hq2
  have hq4 : FloatKind.f64.format.order f 0 = some Ordering.eq := by unfold feq at hq; exact eq_of_beq hq
  have HR : Hid ((eqV ⟨3, 0, f, ⟨#[]⟩⟩ ⟨3, num, f, str⟩ && (sb f == sb f)) = R) := Lib.hid (by rw [← hR, eqp_fl _ _ _ hf, right_float, ← fl_right f hf, hA, hC, hq]; rw [hS]; cases (num == 0) <;> cases str.toList.isEmpty <;> rfl)
  clear hA hC hq hS
  clear hR
  go_enter Tryd.func13, Tryd.ntmps13
  go_wp2_with (first | ((with_reducible refine pl_boxw (s := ⟨3, num, f, str⟩) ?_ ?_); (· rfl); intro w1 K1 hB hz1; obtain ⟨c0, c1, c2, c3⟩ := v_cells K1) | ((with_reducible refine pl_build_k (kd := 3) ?_ ?_ ?_); (· rfl); (· rfl)) | ((with_reducible refine pl_allocw (b := w.heap.size + 1) hz1 ?_ ?_); (· rfl); intro w2 K3 far2 up2; replace K1 := far2 _ _ _ K1; replace hB := up2 _ _ (by omega) hB; clear c0 c1 c2 c3; obtain ⟨c0, c1, c2, c3⟩ := v_cells K1) | ((with_reducible refine pl_storew (o := v0) (s := ⟨3, 0, 0, ⟨#[]⟩⟩) K3 ?_ ?_ ?_ ?_); (· rfl); (· rfl); (· rfl); clear K3; intro w3 K3 far2 up2; replace K1 := far2 _ _ _ (by omega) K1; replace hB := up2 _ _ (by omega) hB; clear c0 c1 c2 c3; obtain ⟨c0, c1, c2, c3⟩ := v_cells K1) | ((with_reducible refine pl_put (i := 2) (u := .float .f64 f) K3 (by omega) (oneF _) ?_ infoF (cellsF _) ?_ ?_ ?_); (· rfl); (· rfl); (· rfl); clear K3; intro w4 K3 far2 up2; replace K3 : Blk w4 (w.heap.size + 1) (V.cells ⟨3, 0, f, ⟨#[]⟩⟩).toArray 27 := K3; replace K1 := far2 _ _ _ (by omega) K1; replace hB := up2 _ _ (by omega) hB; clear c0 c1 c2 c3; obtain ⟨c0, c1, c2, c3⟩ := v_cells K1) | (go_at_call 53; refine (cI.out _).mono ?_; rintro e w5 ⟨rfl, rfl⟩) | (go_at_call 54; refine (cN.out _).mono ?_; rintro e w5 ⟨rfl, rfl⟩) | (go_at_call 55; refine (cS.out _).mono ?_; rintro e w5 ⟨rfl, rfl⟩))
  obtain ⟨E, hE⟩ : ∃ E, eqV (V.mk 3 0 f ⟨#[]⟩) ⟨3, num, f, str⟩ = E := ⟨_, rfl⟩
  have HR := HR
  rw [hE] at HR
  cases E
  · refine region_grown (by kernel_rfl) (by kernel_rfl) ?_
    refine qs_move (v := (.bool true)) (by kernel_rfl) (by kernel_rfl) ?_
    refine qs_not (b := true) (by kernel_rfl) (by kernel_rfl) ?_
    refine qs_move (v := (.bool false)) (by kernel_rfl) (by kernel_rfl) ?_
    simp only [Act.put, List.setIfInBounds_toArray, List.set_cons_succ, List.set_cons_zero]
    refine qs_load_v (b := w.heap.size + 1) (s := (V.mk 3 0 f ⟨#[]⟩)) K3 (by kernel_rfl) (by kernel_rfl) ?_
    refine qs_load_v (b := w.heap.size) (s := ⟨3, num, f, str⟩) K1 (by kernel_rfl) (by kernel_rfl) ?_
    refine qs_neq_v (r := true) (V.mk 3 0 f ⟨#[]⟩) ⟨3, num, f, str⟩ (by rw [hE]; rfl) (by kernel_rfl) (by kernel_rfl) (by kernel_rfl) ?_
    simp only [Act.put, List.setIfInBounds_toArray, List.set_cons_succ, List.set_cons_zero]
    refine qs_pick (b := false) (v := (.bool true)) (by kernel_rfl) (by kernel_rfl) (by kernel_rfl) ?_
    refine qs_move (v := (.bool true)) (by kernel_rfl) (by kernel_rfl) ?_
    refine qs_skip (by kernel_rfl) ?_
    simp only [Act.put, List.setIfInBounds_toArray, List.set_cons_succ, List.set_cons_zero]
    refine qs_skip (by kernel_rfl) ?_
    refine qs_skip (by kernel_rfl) ?_
    refine qs_skip (by kernel_rfl) ?_
    simp only [Act.put, List.setIfInBounds_toArray, List.set_cons_succ, List.set_cons_zero]
    refine qs_skip (by kernel_rfl) ?_
    refine qs_skip (by kernel_rfl) ?_
    refine qs_skip (by kernel_rfl) ?_
    simp only [Act.put, List.setIfInBounds_toArray, List.set_cons_succ, List.set_cons_zero]
    refine qs_pick (b := true) (v := (.bool true)) (by kernel_rfl) (by kernel_rfl) (by kernel_rfl) ?_
    refine wpQuiet_nil ?_
    intro wq hwq
    simp only [Act.put, Exit.then, List.setIfInBounds_toArray, List.set_cons_succ, List.set_cons_zero]
    go_wp2_with fail
    go_ret
    rw [← HN.out, ← HR.out]
    exact ⟨rfl, hB.trans (hwq.mono hB.size)⟩
  · refine region_grown (by kernel_rfl) (by kernel_rfl) ?_
    refine qs_move (v := (.bool true)) (by kernel_rfl) (by kernel_rfl) ?_
    refine qs_not (b := true) (by kernel_rfl) (by kernel_rfl) ?_
    refine qs_move (v := (.bool false)) (by kernel_rfl) (by kernel_rfl) ?_
    simp only [Act.put, List.setIfInBounds_toArray, List.set_cons_succ, List.set_cons_zero]
    refine qs_load_v (b := w.heap.size + 1) (s := (V.mk 3 0 f ⟨#[]⟩)) K3 (by kernel_rfl) (by kernel_rfl) ?_
    refine qs_load_v (b := w.heap.size) (s := ⟨3, num, f, str⟩) K1 (by kernel_rfl) (by kernel_rfl) ?_
    refine qs_neq_v (r := false) (V.mk 3 0 f ⟨#[]⟩) ⟨3, num, f, str⟩ (by rw [hE]; rfl) (by kernel_rfl) (by kernel_rfl) (by kernel_rfl) ?_
    simp only [Act.put, List.setIfInBounds_toArray, List.set_cons_succ, List.set_cons_zero]
    refine qs_pick (b := false) (v := (.bool false)) (by kernel_rfl) (by kernel_rfl) (by kernel_rfl) ?_
    refine qs_move (v := (.bool false)) (by kernel_rfl) (by kernel_rfl) ?_
    refine qs_field (b := w.heap.size + 1) (o := 0) (off := 2) fld2 (by kernel_rfl) (by kernel_rfl) ?_
    simp only [Act.put, List.setIfInBounds_toArray, List.set_cons_succ, List.set_cons_zero]
    refine qs_load_cell (b := w.heap.size + 1) (o := 2) (u := .float .f64 (f)) K3 rfl (by kernel_rfl) aggF (by kernel_rfl) ?_
    refine qs_call (v := .bool (sb (f))) fnSign (by kernel_rfl) (vs := #[.float .f64 (f)]) (by kernel_rfl) (fun w1 hw1 => (sign_calls (f) hf w1).mono fun _ _ ⟨he, hb⟩ => ⟨he, hb ▸ hw1⟩) ?_
    refine qs_field (b := w.heap.size) (o := 0) (off := 2) fld2 (by kernel_rfl) (by kernel_rfl) ?_
    simp only [Act.put, List.setIfInBounds_toArray, List.set_cons_succ, List.set_cons_zero]
    refine qs_load_cell (b := w.heap.size) (o := 2) (u := .float .f64 f) K1 rfl (by kernel_rfl) aggF (by kernel_rfl) ?_
    refine qs_call (v := .bool (sb f)) fnSign (by kernel_rfl) (vs := #[.float .f64 f]) (by kernel_rfl) (fun w1 hw1 => (sign_calls f hf w1).mono fun _ _ ⟨he, hb⟩ => ⟨he, hb ▸ hw1⟩) ?_
    refine qs_neq_bool (b := sb (f)) (c := sb f) Tryd.underlying4 (by kernel_rfl) (by kernel_rfl) (by kernel_rfl) ?_
    simp only [Act.put, List.setIfInBounds_toArray, List.set_cons_succ, List.set_cons_zero]
    refine qs_pick (b := false) (v := (.bool (sb (f) != sb f))) (by kernel_rfl) (by kernel_rfl) (by kernel_rfl) ?_
    refine wpQuiet_nil ?_
    intro wq hwq
    simp only [Act.put, Exit.then, List.setIfInBounds_toArray, List.set_cons_succ, List.set_cons_zero]
    cases hS : (sb (f) != sb f)
    · go_wp2_with fail
      go_ret
      rw [← HN.out, ← HR.out, show (sb (f) == sb f) = true from by cases q : (sb (f) == sb f) with | true => rfl | false => (unfold bne at hS; rw [q] at hS; cases hS)]
      exact ⟨rfl, hB.trans (hwq.mono hB.size)⟩
    · go_wp2_with fail
      go_ret
      rw [← HN.out, ← HR.out, show (sb (f) == sb f) = false from by cases q : (sb (f) == sb f) with | false => rfl | true => (unfold bne at hS; rw [q] at hS; cases hS)]
      exact ⟨rfl, hB.trans (hwq.mono hB.size)⟩
set_option maxRecDepth 100000 in
set_option maxHeartbeats 8000000 in
theorem r_fln (num : Int) (f : Nat) (str : ByteArray) (w : World) (hA : inf f = false) (hC : nan f = false) (hq : feq f 0 = true) (hS : sb f = true) (hf : f < 18446744073709551616) (hs : str.size ≤ 9223372036854775807) :
    Calls Tryd.prog 13 #[.agg (V.mk 3 num f str).cells.toArray] w fun e w' => e = .returned (.int .i64 (if rightR ⟨3, num, f, str⟩ = true then 0 else 30)) ∧ Below w.heap.size w w' := by
  obtain ⟨N, hN⟩ : ∃ N, (if rightR ⟨3, num, f, str⟩ = true then (0 : Int) else 30) = N := ⟨_, rfl⟩
  rw [hN]
  obtain ⟨R, hR⟩ : ∃ R, rightR ⟨3, num, f, str⟩ = R := ⟨_, rfl⟩
  have HN := Lib.hid hN
  rw [hR] at HN
  clear hN
  have cI := Lib.hid (fun w1 : World => hA ▸ isInf_calls f hf w1)
  have cN := Lib.hid (fun w1 : World => hC ▸ isNaN_calls f w1)
  have cS := Lib.hid (fun w1 : World => hS ▸ sign_calls f hf w1)
  have hq2 : (Ieee.double.order f 0 != some Ordering.eq) = false := by unfold feq at hq; unfold bne; rw [hq]; rfl
  have hq3 : (FloatKind.f64.format.order f 0 != some Ordering.eq) = false := hq2
  have hq4 : FloatKind.f64.format.order f 0 = some Ordering.eq := by unfold feq at hq; exact eq_of_beq hq
  have HR : Hid (false = R) := Lib.hid (by rw [← hR, right_float, ← fl_right f hf, hA, hC, hq, hS]; cases (num == 0) <;> cases str.toList.isEmpty <;> rfl)
  clear hA hC hq hS
  clear hR
  go_enter Tryd.func13, Tryd.ntmps13
  go_wp2_with (first | ((with_reducible refine pl_boxw (s := ⟨3, num, f, str⟩) ?_ ?_); (· rfl); intro w1 K1 hB hz1; obtain ⟨c0, c1, c2, c3⟩ := v_cells K1) | ((with_reducible refine pl_build_k (kd := 3) ?_ ?_ ?_); (· rfl); (· rfl)) | ((with_reducible refine pl_allocw (b := w.heap.size + 1) hz1 ?_ ?_); (· rfl); intro w2 K3 far2 up2; replace K1 := far2 _ _ _ K1; replace hB := up2 _ _ (by omega) hB; clear c0 c1 c2 c3; obtain ⟨c0, c1, c2, c3⟩ := v_cells K1) | ((with_reducible refine pl_storew (o := v0) (s := ⟨3, 0, 0, ⟨#[]⟩⟩) K3 ?_ ?_ ?_ ?_); (· rfl); (· rfl); (· rfl); clear K3; intro w3 K3 far2 up2; replace K1 := far2 _ _ _ (by omega) K1; replace hB := up2 _ _ (by omega) hB; clear c0 c1 c2 c3; obtain ⟨c0, c1, c2, c3⟩ := v_cells K1) | ((with_reducible refine pl_put (i := 2) (u := .float .f64 f) K3 (by omega) (oneF _) ?_ infoF (cellsF _) ?_ ?_ ?_); (· rfl); (· rfl); (· rfl); clear K3; intro w4 K3 far2 up2; replace K3 : Blk w4 (w.heap.size + 1) (V.cells ⟨3, 0, f, ⟨#[]⟩⟩).toArray 27 := K3; replace K1 := far2 _ _ _ (by omega) K1; replace hB := up2 _ _ (by omega) hB; clear c0 c1 c2 c3; obtain ⟨c0, c1, c2, c3⟩ := v_cells K1) | (go_at_call 53; refine (cI.out _).mono ?_; rintro e w5 ⟨rfl, rfl⟩) | (go_at_call 54; refine (cN.out _).mono ?_; rintro e w5 ⟨rfl, rfl⟩) | (go_at_call 55; refine (cS.out _).mono ?_; rintro e w5 ⟨rfl, rfl⟩))
  refine region_grown (by kernel_rfl) (by kernel_rfl) ?_
  refine qs_move (v := (.bool false)) (by kernel_rfl) (by kernel_rfl) ?_
  refine qs_not (b := false) (by kernel_rfl) (by kernel_rfl) ?_
  refine qs_move (v := (.bool true)) (by kernel_rfl) (by kernel_rfl) ?_
  simp only [Act.put, List.setIfInBounds_toArray, List.set_cons_succ, List.set_cons_zero]
  refine qs_skip (by kernel_rfl) ?_
  refine qs_skip (by kernel_rfl) ?_
  refine qs_skip (by kernel_rfl) ?_
  simp only [Act.put, List.setIfInBounds_toArray, List.set_cons_succ, List.set_cons_zero]
  refine qs_pick (b := true) (v := (.bool true)) (by kernel_rfl) (by kernel_rfl) (by kernel_rfl) ?_
  refine qs_move (v := (.bool true)) (by kernel_rfl) (by kernel_rfl) ?_
  refine qs_skip (by kernel_rfl) ?_
  simp only [Act.put, List.setIfInBounds_toArray, List.set_cons_succ, List.set_cons_zero]
  refine qs_skip (by kernel_rfl) ?_
  refine qs_skip (by kernel_rfl) ?_
  refine qs_skip (by kernel_rfl) ?_
  simp only [Act.put, List.setIfInBounds_toArray, List.set_cons_succ, List.set_cons_zero]
  refine qs_skip (by kernel_rfl) ?_
  refine qs_skip (by kernel_rfl) ?_
  refine qs_skip (by kernel_rfl) ?_
  simp only [Act.put, List.setIfInBounds_toArray, List.set_cons_succ, List.set_cons_zero]
  refine qs_pick (b := true) (v := (.bool true)) (by kernel_rfl) (by kernel_rfl) (by kernel_rfl) ?_
  refine wpQuiet_nil ?_
  intro wq hwq
  simp only [Act.put, Exit.then, List.setIfInBounds_toArray, List.set_cons_succ, List.set_cons_zero]
  go_wp2_with fail
  go_ret
  rw [← HN.out, ← HR.out]
  exact ⟨rfl, hB.trans (hwq.mono hB.size)⟩
set_option maxRecDepth 100000 in
set_option maxHeartbeats 8000000 in
theorem r_plain (kd num : Int) (f : Nat) (str : ByteArray) (w : World) (hk0 : kd = 0 ∨ kd = 8 ∨ kd = 9 ∨ kd = 10 ∨ kd = 11) (hf : f < 18446744073709551616) (hs : str.size ≤ 9223372036854775807) :
    Calls Tryd.prog 13 #[.agg (V.mk kd num f str).cells.toArray] w fun e w' => e = .returned (.int .i64 (if rightR ⟨kd, num, f, str⟩ = true then 0 else 30)) ∧ Below w.heap.size w w' := by
  obtain ⟨N, hN⟩ : ∃ N, (if rightR ⟨kd, num, f, str⟩ = true then (0 : Int) else 30) = N := ⟨_, rfl⟩
  rw [hN]
  obtain ⟨R, hR⟩ : ∃ R, rightR ⟨kd, num, f, str⟩ = R := ⟨_, rfl⟩
  have HN := Lib.hid hN
  rw [hR] at HN
  clear hN
  have p1 : (kd == 1) = false := beq_eq_false_iff_ne.mpr (by omega)
  have p2 : (kd == 2) = false := beq_eq_false_iff_ne.mpr (by omega)
  have p3 : (kd == 3) = false := beq_eq_false_iff_ne.mpr (by omega)
  have p4 : (kd == 4) = false := beq_eq_false_iff_ne.mpr (by omega)
  have p5 : (kd == 5) = false := beq_eq_false_iff_ne.mpr (by omega)
  have p6 : (kd == 6) = false := beq_eq_false_iff_ne.mpr (by omega)
  have p7 : (kd == 7) = false := beq_eq_false_iff_ne.mpr (by omega)
  have q1 : kd ≤ 11 := by omega
  have HR : Hid ((eqV ⟨kd, 0, 0, ⟨#[]⟩⟩ ⟨kd, num, f, str⟩ && (sb 0 == sb f)) = R) := Lib.hid (by rw [← hR, eqp_plain _ _ _ _ hf]; unfold rightR; rw [if_pos hk0])
  clear hk0
  clear hR
  go_enter Tryd.func13, Tryd.ntmps13
  go_wp2_with (first | ((with_reducible refine pl_boxw (s := ⟨kd, num, f, str⟩) ?_ ?_); (· rfl); intro w1 K1 hB hz1; obtain ⟨c0, c1, c2, c3⟩ := v_cells K1) | ((with_reducible refine pl_build_k (kd := kd) ?_ ?_ ?_); (· rfl); (· rfl)) | ((with_reducible refine pl_allocw (b := w.heap.size + 1) hz1 ?_ ?_); (· rfl); intro w2 K3 far2 up2; replace K1 := far2 _ _ _ K1; replace hB := up2 _ _ (by omega) hB; clear c0 c1 c2 c3; obtain ⟨c0, c1, c2, c3⟩ := v_cells K1) | ((with_reducible refine pl_storew (o := v0) (s := ⟨kd, 0, 0, ⟨#[]⟩⟩) K3 ?_ ?_ ?_ ?_); (· rfl); (· rfl); (· rfl); clear K3; intro w3 K3 far2 up2; replace K1 := far2 _ _ _ (by omega) K1; replace hB := up2 _ _ (by omega) hB; clear c0 c1 c2 c3; obtain ⟨c0, c1, c2, c3⟩ := v_cells K1))
  obtain ⟨E, hE⟩ : ∃ E, eqV (V.mk kd 0 0 ⟨#[]⟩) ⟨kd, num, f, str⟩ = E := ⟨_, rfl⟩
  have HR := HR
  rw [hE] at HR
  cases E
  · refine region_grown (by kernel_rfl) (by kernel_rfl) ?_
    refine qs_move (v := (.bool true)) (by kernel_rfl) (by kernel_rfl) ?_
    refine qs_not (b := true) (by kernel_rfl) (by kernel_rfl) ?_
    refine qs_move (v := (.bool false)) (by kernel_rfl) (by kernel_rfl) ?_
    simp only [Act.put, List.setIfInBounds_toArray, List.set_cons_succ, List.set_cons_zero]
    refine qs_load_v (b := w.heap.size + 1) (s := (V.mk kd 0 0 ⟨#[]⟩)) K3 (by kernel_rfl) (by kernel_rfl) ?_
    refine qs_load_v (b := w.heap.size) (s := ⟨kd, num, f, str⟩) K1 (by kernel_rfl) (by kernel_rfl) ?_
    refine qs_neq_v (r := true) (V.mk kd 0 0 ⟨#[]⟩) ⟨kd, num, f, str⟩ (by rw [hE]; rfl) (by kernel_rfl) (by kernel_rfl) (by kernel_rfl) ?_
    simp only [Act.put, List.setIfInBounds_toArray, List.set_cons_succ, List.set_cons_zero]
    refine qs_pick (b := false) (v := (.bool true)) (by kernel_rfl) (by kernel_rfl) (by kernel_rfl) ?_
    refine qs_move (v := (.bool true)) (by kernel_rfl) (by kernel_rfl) ?_
    refine qs_skip (by kernel_rfl) ?_
    simp only [Act.put, List.setIfInBounds_toArray, List.set_cons_succ, List.set_cons_zero]
    refine qs_skip (by kernel_rfl) ?_
    refine qs_skip (by kernel_rfl) ?_
    refine qs_skip (by kernel_rfl) ?_
    simp only [Act.put, List.setIfInBounds_toArray, List.set_cons_succ, List.set_cons_zero]
    refine qs_skip (by kernel_rfl) ?_
    refine qs_skip (by kernel_rfl) ?_
    refine qs_skip (by kernel_rfl) ?_
    simp only [Act.put, List.setIfInBounds_toArray, List.set_cons_succ, List.set_cons_zero]
    refine qs_pick (b := true) (v := (.bool true)) (by kernel_rfl) (by kernel_rfl) (by kernel_rfl) ?_
    refine wpQuiet_nil ?_
    intro wq hwq
    simp only [Act.put, Exit.then, List.setIfInBounds_toArray, List.set_cons_succ, List.set_cons_zero]
    go_wp2_with fail
    go_ret
    rw [← HN.out, ← HR.out]
    exact ⟨rfl, hB.trans (hwq.mono hB.size)⟩
  · refine region_grown (by kernel_rfl) (by kernel_rfl) ?_
    refine qs_move (v := (.bool true)) (by kernel_rfl) (by kernel_rfl) ?_
    refine qs_not (b := true) (by kernel_rfl) (by kernel_rfl) ?_
    refine qs_move (v := (.bool false)) (by kernel_rfl) (by kernel_rfl) ?_
    simp only [Act.put, List.setIfInBounds_toArray, List.set_cons_succ, List.set_cons_zero]
    refine qs_load_v (b := w.heap.size + 1) (s := (V.mk kd 0 0 ⟨#[]⟩)) K3 (by kernel_rfl) (by kernel_rfl) ?_
    refine qs_load_v (b := w.heap.size) (s := ⟨kd, num, f, str⟩) K1 (by kernel_rfl) (by kernel_rfl) ?_
    refine qs_neq_v (r := false) (V.mk kd 0 0 ⟨#[]⟩) ⟨kd, num, f, str⟩ (by rw [hE]; rfl) (by kernel_rfl) (by kernel_rfl) (by kernel_rfl) ?_
    simp only [Act.put, List.setIfInBounds_toArray, List.set_cons_succ, List.set_cons_zero]
    refine qs_pick (b := false) (v := (.bool false)) (by kernel_rfl) (by kernel_rfl) (by kernel_rfl) ?_
    refine qs_move (v := (.bool false)) (by kernel_rfl) (by kernel_rfl) ?_
    refine qs_field (b := w.heap.size + 1) (o := 0) (off := 2) fld2 (by kernel_rfl) (by kernel_rfl) ?_
    simp only [Act.put, List.setIfInBounds_toArray, List.set_cons_succ, List.set_cons_zero]
    refine qs_load_cell (b := w.heap.size + 1) (o := 2) (u := .float .f64 (0)) K3 rfl (by kernel_rfl) aggF (by kernel_rfl) ?_
    refine qs_call (v := .bool (sb (0))) fnSign (by kernel_rfl) (vs := #[.float .f64 (0)]) (by kernel_rfl) (fun w1 hw1 => (sign_calls (0) (by omega) w1).mono fun _ _ ⟨he, hb⟩ => ⟨he, hb ▸ hw1⟩) ?_
    refine qs_field (b := w.heap.size) (o := 0) (off := 2) fld2 (by kernel_rfl) (by kernel_rfl) ?_
    simp only [Act.put, List.setIfInBounds_toArray, List.set_cons_succ, List.set_cons_zero]
    refine qs_load_cell (b := w.heap.size) (o := 2) (u := .float .f64 f) K1 rfl (by kernel_rfl) aggF (by kernel_rfl) ?_
    refine qs_call (v := .bool (sb f)) fnSign (by kernel_rfl) (vs := #[.float .f64 f]) (by kernel_rfl) (fun w1 hw1 => (sign_calls f hf w1).mono fun _ _ ⟨he, hb⟩ => ⟨he, hb ▸ hw1⟩) ?_
    refine qs_neq_bool (b := sb (0)) (c := sb f) Tryd.underlying4 (by kernel_rfl) (by kernel_rfl) (by kernel_rfl) ?_
    simp only [Act.put, List.setIfInBounds_toArray, List.set_cons_succ, List.set_cons_zero]
    refine qs_pick (b := false) (v := (.bool (sb (0) != sb f))) (by kernel_rfl) (by kernel_rfl) (by kernel_rfl) ?_
    refine wpQuiet_nil ?_
    intro wq hwq
    simp only [Act.put, Exit.then, List.setIfInBounds_toArray, List.set_cons_succ, List.set_cons_zero]
    cases hS : (sb (0) != sb f)
    · go_wp2_with fail
      go_ret
      rw [← HN.out, ← HR.out, show (sb (0) == sb f) = true from by cases q : (sb (0) == sb f) with | true => rfl | false => (unfold bne at hS; rw [q] at hS; cases hS)]
      exact ⟨rfl, hB.trans (hwq.mono hB.size)⟩
    · go_wp2_with fail
      go_ret
      rw [← HN.out, ← HR.out, show (sb (0) == sb f) = false from by cases q : (sb (0) == sb f) with | false => rfl | true => (unfold bne at hS; rw [q] at hS; cases hS)]
      exact ⟨rfl, hB.trans (hwq.mono hB.size)⟩
set_option maxRecDepth 100000 in
set_option maxHeartbeats 8000000 in
theorem r_big (kd num : Int) (f : Nat) (str : ByteArray) (w : World) (hk0 : ¬ kd ≤ 11) (hf : f < 18446744073709551616) (hs : str.size ≤ 9223372036854775807) :
    Calls Tryd.prog 13 #[.agg (V.mk kd num f str).cells.toArray] w fun e w' => e = .returned (.int .i64 (if rightR ⟨kd, num, f, str⟩ = true then 0 else 30)) ∧ Below w.heap.size w w' := by
  obtain ⟨N, hN⟩ : ∃ N, (if rightR ⟨kd, num, f, str⟩ = true then (0 : Int) else 30) = N := ⟨_, rfl⟩
  rw [hN]
  obtain ⟨R, hR⟩ : ∃ R, rightR ⟨kd, num, f, str⟩ = R := ⟨_, rfl⟩
  have HN := Lib.hid hN
  rw [hR] at HN
  clear hN
  have p1 : (kd == 1) = false := beq_eq_false_iff_ne.mpr (by omega)
  have p2 : (kd == 2) = false := beq_eq_false_iff_ne.mpr (by omega)
  have p3 : (kd == 3) = false := beq_eq_false_iff_ne.mpr (by omega)
  have p4 : (kd == 4) = false := beq_eq_false_iff_ne.mpr (by omega)
  have p5 : (kd == 5) = false := beq_eq_false_iff_ne.mpr (by omega)
  have p6 : (kd == 6) = false := beq_eq_false_iff_ne.mpr (by omega)
  have p7 : (kd == 7) = false := beq_eq_false_iff_ne.mpr (by omega)
  have HR : Hid (false = R) := Lib.hid (by rw [← hR, right_big kd num f str hk0])
  clear hR
  go_enter Tryd.func13, Tryd.ntmps13
  go_wp2_with (first | ((with_reducible refine pl_boxw (s := ⟨kd, num, f, str⟩) ?_ ?_); (· rfl); intro w1 K1 hB hz1; obtain ⟨c0, c1, c2, c3⟩ := v_cells K1) | ((with_reducible refine pl_build_k (kd := kd) ?_ ?_ ?_); (· rfl); (· rfl)) | ((with_reducible refine pl_allocw (b := w.heap.size + 1) hz1 ?_ ?_); (· rfl); intro w2 K3 far2 up2; replace K1 := far2 _ _ _ K1; replace hB := up2 _ _ (by omega) hB; clear c0 c1 c2 c3; obtain ⟨c0, c1, c2, c3⟩ := v_cells K1) | ((with_reducible refine pl_storew (o := v0) (s := ⟨kd, 0, 0, ⟨#[]⟩⟩) K3 ?_ ?_ ?_ ?_); (· rfl); (· rfl); (· rfl); clear K3; intro w3 K3 far2 up2; replace K1 := far2 _ _ _ (by omega) K1; replace hB := up2 _ _ (by omega) hB; clear c0 c1 c2 c3; obtain ⟨c0, c1, c2, c3⟩ := v_cells K1))
  refine region_grown (by kernel_rfl) (by kernel_rfl) ?_
  refine qs_move (v := (.bool false)) (by kernel_rfl) (by kernel_rfl) ?_
  refine qs_not (b := false) (by kernel_rfl) (by kernel_rfl) ?_
  refine qs_move (v := (.bool true)) (by kernel_rfl) (by kernel_rfl) ?_
  simp only [Act.put, List.setIfInBounds_toArray, List.set_cons_succ, List.set_cons_zero]
  refine qs_skip (by kernel_rfl) ?_
  refine qs_skip (by kernel_rfl) ?_
  refine qs_skip (by kernel_rfl) ?_
  simp only [Act.put, List.setIfInBounds_toArray, List.set_cons_succ, List.set_cons_zero]
  refine qs_pick (b := true) (v := (.bool true)) (by kernel_rfl) (by kernel_rfl) (by kernel_rfl) ?_
  refine qs_move (v := (.bool true)) (by kernel_rfl) (by kernel_rfl) ?_
  refine qs_skip (by kernel_rfl) ?_
  simp only [Act.put, List.setIfInBounds_toArray, List.set_cons_succ, List.set_cons_zero]
  refine qs_skip (by kernel_rfl) ?_
  refine qs_skip (by kernel_rfl) ?_
  refine qs_skip (by kernel_rfl) ?_
  simp only [Act.put, List.setIfInBounds_toArray, List.set_cons_succ, List.set_cons_zero]
  refine qs_skip (by kernel_rfl) ?_
  refine qs_skip (by kernel_rfl) ?_
  refine qs_skip (by kernel_rfl) ?_
  simp only [Act.put, List.setIfInBounds_toArray, List.set_cons_succ, List.set_cons_zero]
  refine qs_pick (b := true) (v := (.bool true)) (by kernel_rfl) (by kernel_rfl) (by kernel_rfl) ?_
  refine wpQuiet_nil ?_
  intro wq hwq
  simp only [Act.put, Exit.then, List.setIfInBounds_toArray, List.set_cons_succ, List.set_cons_zero]
  go_wp2_with fail
  go_ret
  rw [← HN.out, ← HR.out]
  exact ⟨rfl, hB.trans (hwq.mono hB.size)⟩
theorem right_calls (v : V) (w : World) (hk : 0 ≤ v.kind ∧ v.kind ≤ 255) (hf : v.fl < 18446744073709551616) (hs : v.str.size ≤ 9223372036854775807) (hT : Tabs w) :
    Calls Tryd.prog 13 #[.agg v.cells.toArray] w fun e w' => e = .returned (.int .i64 (if rightR v = true then 0 else 30)) ∧ Below w.heap.size w w' := by
  obtain ⟨kd, num, f, str⟩ := v
  simp only at hk hf hs
  have kc : (kd = 0 ∨ kd = 8 ∨ kd = 9 ∨ kd = 10 ∨ kd = 11) ∨ kd = 1 ∨ kd = 2 ∨ kd = 3 ∨ kd = 4 ∨ kd = 5 ∨ kd = 6 ∨ kd = 7 ∨ ¬ kd ≤ 11 := by omega
  rcases kc with h | rfl | rfl | rfl | rfl | rfl | rfl | rfl | h
  · exact r_plain kd num f str w h hf hs
  · by_cases h0 : num = 0
    · exact r_bool0 num f str w h0 hf hs
    · by_cases h1 : num = 1
      · exact r_bool1 num f str w h1 hf hs
      · exact r_boolx num f str w h0 h1 hf hs
  · exact r_int num f str w hf hs
  · cases hA : inf f
    · cases hC : nan f
      · cases hq : feq f 0
        · exact r_fl num f str w hA hC hq hf hs
        · cases hS : sb f
          · exact r_fl0 num f str w hA hC hq hS hf hs
          · exact r_fln num f str w hA hC hq hS hf hs
      · exact r_nan num f str w hA hC hf hs
    · exact r_inf num f str w hA hf hs
  · cases hU : Lib.validD str.data.toList
    · exact r_textx num f str w hU hf hs hT
    · by_cases h1 : str.size ≤ 1000
      · exact r_text num f str w hU h1 hf hs hT
      · exact r_textl num f str w hU h1 hf hs hT
  · by_cases h1 : str.size ≤ 1000
    · exact r_bytes num f str w h1 hf hs
    · exact r_bytesx num f str w h1 hf hs
  · by_cases h0 : 0 ≤ num
    · by_cases h1 : num ≤ 9007199254740992
      · exact r_time num f str w h0 h1 hf hs
      · exact r_timehi num f str w h0 h1 hf hs
    · exact r_timelo num f str w h0 hf hs
  · exact r_counter num f str w hf hs
  · exact r_big kd num f str w h hf hs
end Go.Proofs.YtodjcgkbcbaadaaDoor.Va