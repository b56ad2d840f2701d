/- The walks of cmp.Compare over step kinds, texts and numbers. -/
import Derived.Test.YtoddjofckbfkhaaProg
import Derived.Test.YtoddjofckbfkhaaPl
import Derived.WalkKit
namespace Go.Proofs.Ytoddjofckbfkhaa.Ops
open Go.RowKit Mem
theorem pl_gtr_str {P : Program} {ops : Array Oper} {rest : List Oper} {a : Act} {w : World} {Q : Exit → Act → World → Prop} {dst : Option Tmp} {ty : TypeId} {pos : String} {aft : Array Edge} {gd : Option (Nat × Bool)} {t yt : TypeId} {x y : Operand} {s u : ByteArray} {r : Bool}
    (hr : (!(Op.bytesLess s.toList u.toList || (s.toList == u.toList))) = r) (hw : Region.wanted ⟨dst, .binOp .gtr t x y yt, ty, pos, aft, gd⟩ (yielded ops a.tmps) = true) (hx : a.eval x = .string s) (hy : a.eval y = .string u)
    (h : wpList P ops Q rest (a.put dst (.bool r)) w) : wpList P ops Q (⟨dst, .binOp .gtr t x y yt, ty, pos, aft, gd⟩ :: rest) a w :=
  pl_value hw (by subst hr; simp [execOp, hx, hy, eqGuard, binOp, Op.stringOp]) h
end Go.Proofs.Ytoddjofckbfkhaa.Ops
namespace Go.Proofs.Ytoddjofckbfkhaa.Wy
open Go.RowKit Mem Ops
/-- Which of two numbers comes first. -/
def cmpZ (m n : Int) : Int := if m < n then -1 else if n < m then 1 else 0

theorem cmpK_calls (m n : Int) (w : World) : Calls Try.prog 18 #[.int .u8 m, .int .u8 n] w fun e w' => e = .returned (.int .i64 (cmpZ m n)) ∧ w = w' := by
  rw [cmpZ]
  by_cases h1 : m < n
  · rw [if_pos h1]
    go_enter Try.func18, Try.ntmps18
    go_wp2
    go_ret
    exact ⟨rfl, rfl⟩
  · rw [if_neg h1]
    by_cases h2 : n < m
    · rw [if_pos h2]
      go_enter Try.func18, Try.ntmps18
      go_wp2
      go_ret
      exact ⟨rfl, rfl⟩
    · rw [if_neg h2]
      go_enter Try.func18, Try.ntmps18
      go_wp2
      go_ret
      exact ⟨rfl, rfl⟩
theorem cmpN_calls (m n : Int) (w : World) : Calls Try.prog 20 #[.int .i64 m, .int .i64 n] w fun e w' => e = .returned (.int .i64 (cmpZ m n)) ∧ w = w' := by
  rw [cmpZ]
  by_cases h1 : m < n
  · rw [if_pos h1]
    go_enter Try.func20, Try.ntmps20
    go_wp2
    go_ret
    exact ⟨rfl, rfl⟩
  · rw [if_neg h1]
    by_cases h2 : n < m
    · rw [if_pos h2]
      go_enter Try.func20, Try.ntmps20
      go_wp2
      go_ret
      exact ⟨rfl, rfl⟩
    · rw [if_neg h2]
      go_enter Try.func20, Try.ntmps20
      go_wp2
      go_ret
      exact ⟨rfl, rfl⟩

theorem nanS_calls (s : ByteArray) (w : World) : Calls Try.prog 22 #[.string s] w fun e w' => e = .returned (.bool false) ∧ w = w' := by
  go_enter Try.func22, Try.ntmps22
  go_wp2
  go_ret
  exact ⟨rfl, rfl⟩
/-- Which of two texts comes first. -/
def cmpT (s t : List UInt8) : Int := if Op.bytesLess s t then -1 else if s = t then 0 else 1
theorem cmpS_calls (s t : ByteArray) (w : World) : Calls Try.prog 19 #[.string s, .string t] w fun e w' => e = .returned (.int .i64 (cmpT s.toList t.toList)) ∧ w = w' := by
  rw [cmpT]
  by_cases h1 : Op.bytesLess s.toList t.toList = true
  · rw [if_pos h1]
    go_enter Try.func19, Try.ntmps19
    go_wp2
    go_ret
    exact ⟨rfl, rfl⟩
  · have h1 : Op.bytesLess s.toList t.toList = false := by simpa using h1
    rw [if_neg (by rw [h1]; simp)]
    by_cases h2 : s.toList = t.toList
    · rw [if_pos h2]
      have hr : (!(Op.bytesLess s.toList t.toList || (s.toList == t.toList))) = false := by rw [h1]; simp [h2]
      have HR := Lib.hid hr
      clear hr h2
      go_enter Try.func19, Try.ntmps19
      go_wp2_with (first | (go_at_call 22; refine (nanS_calls _ _).mono ?_; rintro e w' ⟨rfl, rfl⟩) | ((with_reducible refine pl_gtr_str HR.out ?_ ?_ ?_ ?_); (· rfl); (· rfl); (· rfl)))
      go_ret
      exact ⟨rfl, rfl⟩
    · rw [if_neg h2]
      have hr : (!(Op.bytesLess s.toList t.toList || (s.toList == t.toList))) = true := by rw [h1]; simp [h2]
      have HR := Lib.hid hr
      clear hr h2
      go_enter Try.func19, Try.ntmps19
      go_wp2_with (first | (go_at_call 22; refine (nanS_calls _ _).mono ?_; rintro e w' ⟨rfl, rfl⟩) | ((with_reducible refine pl_gtr_str HR.out ?_ ?_ ?_ ?_); (· rfl); (· rfl); (· rfl)))
      go_ret
      exact ⟨rfl, rfl⟩
end Go.Proofs.Ytoddjofckbfkhaa.Wy
