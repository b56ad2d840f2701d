/- Opening a law's arguments: steps. -/
import Derived.Test.YtoddjofckbfkhaaDoorSts
import Derived.Test.YtoddjofckbfkhaaDoorOpen2
namespace Go.Proofs.YtoddjofckbfkhaaDoor.Wy
open Go.RowKit Go.ChangeShapes Go.WideShapes Go.ChangeAt
theorem three_of {α : Type} {cs : List α} (h : cs.length = 3) : ∃ a b c, cs = [a, b, c] := by
  match cs, h with
  | [a, b, c], _ => exact ⟨a, b, c, rfl⟩
section
variable {H : Type} {enc : TypeId × Value → H} {W : World} {base : Nat} {spare : Nat → Bool} {held : Bool}
/-- The cells of a step. -/
theorem trod_st {fuel : Nat} {cs : List Value} {x : DataW H × List MemPlace} (h : DataW.trod enc Tryd.prog W base spare held fuel 59 cs = some x) : ∃ s : St, ((Lit.int .u8 s.kind).wf = true ∧ (Lit.int .i64 s.num).wf = true ∧ s.key.size ≤ maxLen) ∧ cs = s.cells := by
  obtain ⟨xs, n, _, _, hl, hx, hd⟩ := DataW.trod_struct Tryd.underlying59 h
  have hl' : cs.length = 3 := hl.trans (by kernel_rfl)
  have c27 : Tryd.prog.cellsOf 57 = 1 := by kernel_rfl
  have c9 : Tryd.prog.cellsOf 9 = 1 := by kernel_rfl
  have c3 : Tryd.prog.cellsOf 3 = 1 := by kernel_rfl
  have g0 : DataW.trod enc Tryd.prog W base spare held n 57 ((cs.drop 0).take (Tryd.prog.cellsOf 57)) = xs[0]? := hd 0 _ rfl
  have g1 : DataW.trod enc Tryd.prog W base spare held n 9 ((cs.drop 1).take (Tryd.prog.cellsOf 9)) = xs[1]? := hd 1 _ rfl
  have g2 : DataW.trod enc Tryd.prog W base spare held n 3 ((cs.drop 2).take (Tryd.prog.cellsOf 3)) = xs[2]? := hd 2 _ rfl
  rw [c27] at g0
  rw [c9] at g1
  rw [c3] at g2
  obtain ⟨a, b, c, rfl⟩ := three_of hl'
  have one : ∀ i, i < 3 → ∃ y, xs[i]? = some y := fun i hi => by
    have e : xs.length = 3 := hx
    exact ⟨_, List.getElem?_eq_getElem (by omega)⟩
  obtain ⟨y0, e0⟩ := one 0 (by omega)
  obtain ⟨y1, e1⟩ := one 1 (by omega)
  obtain ⟨y2, e2⟩ := one 2 (by omega)
  rw [e0] at g0
  rw [e1] at g1
  rw [e2] at g2
  obtain ⟨k, h0, _, w0⟩ := DataW.trod_int Tryd.underlying57 g0
  obtain ⟨s, h1, _, w1⟩ := DataW.trod_string Tryd.underlying9 g1
  obtain ⟨m, h2, _, w2⟩ := DataW.trod_int Tryd.underlying3 g2
  simp at h0 h1 h2
  subst h0 h1 h2
  exact ⟨⟨k, s, m⟩, ⟨w0, w2, w1⟩, rfl⟩
theorem open_sts {a0 : Option Addr} {len cap : Nat} {d : DataW H} {p : List MemPlace} {ts : List TypeId} {ds : List (DataW H)} {j : Nat} (hsz : (DataW.weightsEach Tryd.prog ts ds).all (· ≤ reachBytes) = true) (hts : ts[j]? = some 22) (hds : ds[j]? = some d)
    (h : DataW.Trod enc Tryd.prog W base spare held 22 (.slice a0 len cap) d p) :
    ∃ l : List St, len = l.length ∧ (∀ s ∈ l, (Lit.int .u8 s.kind).wf = true ∧ (Lit.int .i64 s.num).wf = true ∧ s.key.size ≤ maxLen) ∧ Sts W a0 l ∧ len ≤ cap ∧ l.length * 32 ≤ 140737488351232 := by
  have c29 : Tryd.prog.cellsOf 59 = 3 := by kernel_rfl
  have b29 : Tryd.prog.bytesOf 59 = 32 := by kernel_rfl
  obtain ⟨l, ll, ql, Rl, hc0, _, hd0⟩ := Mem.open_rows (f := St.cells) (q := fun s => (Lit.int .u8 s.kind).wf = true ∧ (Lit.int .i64 s.num).wf = true ∧ s.key.size ≤ maxLen) Tryd.underlying22 c29 (by omega) (fun _ _ _ h => trod_st h) h
  refine ⟨l, ll.symm, ql, Rl, hc0, ?_⟩
  rcases hd0 with ⟨_, h⟩ | ⟨es, sp, rfl, h, _⟩
  · omega
  · have := sized_slice hsz hts hds Tryd.underlying22
    rw [b29] at this
    simp only [reachBytes] at this
    have h2 : es.length * 32 ≤ 140737488351232 := by omega
    rw [ll, ← h]; exact h2
end
end Go.Proofs.YtoddjofckbfkhaaDoor.Wy
