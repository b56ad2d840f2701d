/- The walks of Up, of the document's Up and Starts. -/
import Derived.Test.YtoddjofckbfkhaaLentW
namespace Go.Proofs.Ytoddjofckbfkhaa.Wy
open Go.RowKit Mem Ops
/-- What Up gives. -/
def UpTo (l : List St) (w : World) (e : Ending) (w' : World) : Prop :=
  ∃ a n c, e = .returned (.slice a n c) ∧ n = l.dropLast.length ∧ Sts w' a l.dropLast ∧ Below w.heap.size w w'
theorem Sts.drop {w : World} {a : Option Addr} {l : List St} (h : Sts w a l) (hp : 0 < l.length) : Sts w a l.dropLast := by
  have h2 : l = l.dropLast ++ [l.getLast (by intro e; subst e; simp at hp)] := (List.dropLast_concat_getLast _).symm
  rw [h2] at h
  exact h.left
theorem up_of_own {w w1 : World} {l : List St} {v : Value} {k : Nat} (hk : l.length = k + 1) (hO : w1.ownsRow w.heap.size 29 3 v (0 + k) ([] ++ l.dropLast.flatMap St.cells)) (hB : Below w.heap.size w w1) : UpTo l w (.returned v) w1 := by
  obtain ⟨a, c, rfl, _, _, hR, _⟩ := own_row hO
  exact ⟨a, _, c, rfl, by simp; omega, hR, hB⟩
set_option maxRecDepth 100000 in
theorem up_calls (a : Option Addr) (l : List St) (n cap : Nat) (w : World) (hn : n = l.length) (hc : n ≤ cap) (hl : l.length ≤ 4000000000000) (hH : Sts w a l) :
    Calls Try.prog 11 #[.slice a n cap] w (UpTo l w) := by
  rcases Nat.eq_zero_or_pos l.length with h0 | h0
  · obtain rfl : l = [] := List.eq_nil_of_length_eq_zero h0
    subst hn
    go_enter Try.func11, Try.ntmps11
    go_wp2_with fail
    go_ret
    exact ⟨none, 0, 0, rfl, rfl, .inl rfl, Below.refl _ _⟩
  · obtain ⟨k, hk⟩ : ∃ k, l.length = k + 1 := ⟨l.length - 1, by omega⟩
    obtain rfl : n = k + 1 := by omega
    have hD := hH.drop h0
    have hHr : Row w a (l.dropLast.flatMap St.cells) := hD
    have LF : Hid ((l.dropLast.flatMap St.cells).length = k * 3) := Lib.hid (by rw [length_flat]; simp; omega)
    have LU := Lib.hid (fun (w1 : World) (v : Value) => up_of_own (w := w) (w1 := w1) (v := v) hk)
    have hB0 := Below.refl w.heap.size w
    have hN := World.ownsRow_nil w w.heap.size 29 3
    have q1 : (0 + k) * 32 ≤ 140737488355328 := by omega
    have q2 : (k : Int) ≤ 4000000000000 := by omega
    have q3 : (k : Int) ≤ (cap : Int) := by omega
    have q4 : ((k : Int) + 1 == 0) = false := by simp; omega
    clear hn hk h0 hH hD hc hl
    go_enter Try.func11, Try.ntmps11
    go_wp2_with (first | ((with_reducible refine pl_append (c := cap) w.heap.size Try.underlying22 el29 hN LF.out hHr (one_sts _) q1 hB0 (Nat.le_refl _) ?_ ?_ ?_ ?_); (· rfl); (· rfl); (· rfl); intro v1 w1 hO1 hB1 _ _))
    go_ret
    exact LU.out _ _ hO1 hB1
set_option maxRecDepth 100000 in
theorem upRef_calls (a : Option Addr) (l : List St) (n cap : Nat) (w : World) (hn : n = l.length) (hc : n ≤ cap) (hl : l.length ≤ 4000000000000) (hH : Sts w a l) :
    Calls Try.prog 12 #[.slice a n cap] w (UpTo l w) := by
  rcases Nat.eq_zero_or_pos l.length with h0 | h0
  · obtain rfl : l = [] := List.eq_nil_of_length_eq_zero h0
    subst hn
    go_enter Try.func12, Try.ntmps12
    go_wp2_with fail
    go_ret
    exact ⟨none, 0, 0, rfl, rfl, .inl rfl, Below.refl _ _⟩
  · obtain ⟨k, hk⟩ : ∃ k, l.length = k + 1 := ⟨l.length - 1, by omega⟩
    obtain rfl : n = k + 1 := by omega
    have hD := hH.drop h0
    have hHr : Row w a (l.dropLast.flatMap St.cells) := hD
    have LF : Hid ((l.dropLast.flatMap St.cells).length = k * 3) := Lib.hid (by rw [length_flat]; simp; omega)
    have LU := Lib.hid (fun (w1 : World) (v : Value) => up_of_own (w := w) (w1 := w1) (v := v) hk)
    have hB0 := Below.refl w.heap.size w
    have hN := World.ownsRow_nil w w.heap.size 29 3
    have q1 : (0 + k) * 32 ≤ 140737488355328 := by omega
    have q2 : (k : Int) ≤ 4000000000000 := by omega
    have q3 : (k : Int) ≤ (cap : Int) := by omega
    have q4 : (0 : Int) < (k : Int) + 1 := by omega
    clear hn hk h0 hH hD hc hl
    go_enter Try.func12, Try.ntmps12
    go_wp2_with (first | ((with_reducible refine pl_append (c := cap) w.heap.size Try.underlying22 el29 hN LF.out hHr (one_sts _) q1 hB0 (Nat.le_refl _) ?_ ?_ ?_ ?_); (· rfl); (· rfl); (· rfl); intro v1 w1 hO1 hB1 _ _))
    go_ret
    exact LU.out _ _ hO1 hB1
theorem startsR_cmp (l m : List St) : startsR l m = (if m.length ≤ l.length then cmpW (l.take m.length) m == 0 else false) := by
  unfold startsR
  split
  · rw [eqL_k, cmpW_k, Bool.eq_iff_iff, decide_eq_true_eq, beq_iff_eq, (lexL_is cmpK_is).zero]
  · rfl
set_option maxRecDepth 100000 in
theorem startsRef_calls (a a2 : Option Addr) (l m : List St) (n n2 cap cap2 : Nat) (w : World) (hn : n = l.length) (hn2 : n2 = m.length) (_hl : l.length ≤ 140737488351232) (hm : m.length ≤ 140737488351232) (hcap : n ≤ cap) (hH : Sts w a l) (hH2 : Sts w a2 m) :
    Calls Try.prog 10 #[.slice a n cap, .slice a2 n2 cap2] w fun e w' => e = .returned (.bool (startsR l m)) ∧ Below w.heap.size w w' := by
  subst hn
  subst hn2
  rw [startsR_cmp]
  by_cases h : m.length ≤ l.length
  · rw [if_pos h]
    have hT : Sts w a (l.take m.length) := by
      have h1 : Sts w a (l.take m.length ++ l.drop m.length) := by rw [List.take_append_drop]; exact hH
      exact h1.left
    have he := cmpRef_calls a a2 (l.take m.length) m m.length m.length cap cap2 w (by simp; omega) rfl (by simp; omega) hm hT hH2
    have HE := Lib.hid he
    have q0 : (0 : Int) ≤ (m.length : Int) := by omega
    have q1 : (m.length : Int) ≤ (l.length : Int) := by omega
    have q2 : (m.length : Int) ≤ (cap : Int) := by omega
    have q3 : decide (m.length ≤ l.length) = true := by simpa using h
    clear he h hT
    go_enter Try.func10, Try.ntmps10
    go_wp2_with fail
    refine HE.out.mono ?_
    rintro e w1 ⟨rfl, hb⟩
    go_wp2_with fail
    go_ret
    exact ⟨rfl, hb⟩
  · rw [if_neg h]
    have q1 : ¬ (m.length : Int) ≤ (l.length : Int) := by omega
    have q3 : decide (m.length ≤ l.length) = false := by simpa using h
    go_enter Try.func10, Try.ntmps10
    go_wp2_with fail
    go_ret
    exact ⟨rfl, Below.refl _ _⟩
end Go.Proofs.Ytoddjofckbfkhaa.Wy
