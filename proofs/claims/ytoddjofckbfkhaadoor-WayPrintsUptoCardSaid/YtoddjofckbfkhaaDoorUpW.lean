/- The walks of Up, of the document's Up and Starts. -/
import Derived.Test.YtoddjofckbfkhaaDoorLentW
namespace Go.Proofs.YtoddjofckbfkhaaDoor.Wy
open Go.RowKit Mem Ops
/-- What Up gives. -/
def UpTo (l : List St) (w : World) (e : Ending) (w' : World) : Prop :=
  ∃ a n c, e = .returned (.slice a n c) ∧ n = l.dropLast.length ∧ Sts w' a l.dropLast ∧ Below w.heap.size w w'
theorem Sts.drop {w : World} {a : Option Addr} {l : List St} (h : Sts w a l) (hp : 0 < l.length) : Sts w a l.dropLast := by
  have h2 : l = l.dropLast ++ [l.getLast (by intro e; subst e; simp at hp)] := (List.dropLast_concat_getLast _).symm
  rw [h2] at h
  exact h.left
theorem up_of_own {w w1 : World} {l : List St} {v : Value} {k : Nat} (hk : l.length = k + 1) (hO : w1.ownsRow w.heap.size 59 3 v (0 + k) ([] ++ l.dropLast.flatMap St.cells)) (hB : Below w.heap.size w w1) : UpTo l w (.returned v) w1 := by
  obtain ⟨a, c, rfl, _, _, hR, _⟩ := own_row hO
  exact ⟨a, _, c, rfl, by simp; omega, hR, hB⟩
set_option maxRecDepth 100000 in
theorem up_calls (a : Option Addr) (l : List St) (n cap : Nat) (w : World) (hn : n = l.length) (hc : n ≤ cap) (hl : l.length * 32 ≤ 140737488355328) (hH : Sts w a l) :
    Calls Tryd.prog 18 #[.slice a n cap] w (UpTo l w) := by
  rcases Nat.eq_zero_or_pos l.length with h0 | h0
  · obtain rfl : l = [] := List.eq_nil_of_length_eq_zero h0
    subst hn
    go_enter Tryd.func18, Tryd.ntmps18
    go_wp2_with fail
    go_ret
    exact ⟨none, 0, 0, rfl, rfl, .inl rfl, Below.refl _ _⟩
  · obtain ⟨k, hk⟩ : ∃ k, l.length = k + 1 := ⟨l.length - 1, by omega⟩
    obtain rfl : n = k + 1 := by omega
    have hD := hH.drop h0
    have hHr : Row w a (l.dropLast.flatMap St.cells) := hD
    have LF : Hid ((l.dropLast.flatMap St.cells).length = k * 3) := Lib.hid (by rw [length_flat]; simp; omega)
    have LU := Lib.hid (fun (w1 : World) (v : Value) => up_of_own (w := w) (w1 := w1) (v := v) hk)
    have hB0 := Below.refl w.heap.size w
    have hN := World.ownsRow_nil w w.heap.size 59 3
    have q1 : (0 + k) * 32 ≤ 140737488355328 := by omega
    have q2 : (k : Int) ≤ 4398046511104 := by omega
    have q3 : (k : Int) ≤ (cap : Int) := by omega
    have q4 : ((k : Int) + 1 == 0) = false := by simp; omega
    clear hn hk h0 hH hD hc hl
    go_enter Tryd.func18, Tryd.ntmps18
    go_wp2_with (first | ((with_reducible refine pl_append (c := cap) w.heap.size Tryd.underlying22 el29 hN LF.out hHr (one_sts _) q1 hB0 (Nat.le_refl _) ?_ ?_ ?_ ?_); (· rfl); (· rfl); (· rfl); intro v1 w1 hO1 hB1 _ _))
    go_ret
    exact LU.out _ _ hO1 hB1
end Go.Proofs.YtoddjofckbfkhaaDoor.Wy
