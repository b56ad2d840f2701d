/- Opening a law's arguments: values. -/
import Derived.Test.YtodjcgkbcbaadaaDoorVa
import Derived.Test.YtodjcgkbcbaadaaDoorOpen2
namespace Go.Proofs.YtodjcgkbcbaadaaDoor.Va
open Go.RowKit Go.ChangeShapes Go.WideShapes Go.ChangeAt
theorem four_of {α : Type} {cs : List α} (h : cs.length = 4) : ∃ a b c d, cs = [a, b, c, d] := by
  match cs, h with
  | [a, b, c, d], _ => exact ⟨a, b, c, d, rfl⟩
section
variable {H : Type} {enc : TypeId × Value → H} {W : World} {base : Nat} {spare : Nat → Bool} {held : Bool}
theorem trod_fl {k : FloatKind} {fuel : Nat} {t : TypeId} {cs : List Value} {x : DataW H × List MemPlace} (ht : Tryd.prog.underlying t = some (.float k)) (h : DataW.trod enc Tryd.prog W base spare held fuel t cs = some x) : ∃ b, cs = [.float k b] ∧ (Lit.float k b).wf = true := by
  cases fuel with
  | zero => simp [DataW.trod] at h
  | succ n =>
    unfold DataW.trod at h
    rw [ht] at h
    split at h <;> simp_all
/-- The cells of a value. -/
theorem trod_v {fuel : Nat} {cs : List Value} {x : DataW H × List MemPlace} (h : DataW.trod enc Tryd.prog W base spare held fuel 27 cs = some x) : ∃ s : V, ((Lit.int .u8 s.kind).wf = true ∧ (Lit.int .i64 s.num).wf = true ∧ (Lit.float .f64 s.fl).wf = true ∧ s.str.size ≤ maxLen) ∧ cs = s.cells := by
  obtain ⟨xs, n, _, _, hl, hx, hd⟩ := DataW.trod_struct Tryd.underlying27 h
  have hl' : cs.length = 4 := hl.trans (by kernel_rfl)
  have cK : Tryd.prog.cellsOf 24 = 1 := by kernel_rfl
  have cN : Tryd.prog.cellsOf 2 = 1 := by kernel_rfl
  have cF : Tryd.prog.cellsOf 25 = 1 := by kernel_rfl
  have cS : Tryd.prog.cellsOf 9 = 1 := by kernel_rfl
  have g0 : DataW.trod enc Tryd.prog W base spare held n 24 ((cs.drop 0).take (Tryd.prog.cellsOf 24)) = xs[0]? := hd 0 _ rfl
  have g1 : DataW.trod enc Tryd.prog W base spare held n 2 ((cs.drop 1).take (Tryd.prog.cellsOf 2)) = xs[1]? := hd 1 _ rfl
  have g2 : DataW.trod enc Tryd.prog W base spare held n 25 ((cs.drop 2).take (Tryd.prog.cellsOf 25)) = xs[2]? := hd 2 _ rfl
  have g3 : DataW.trod enc Tryd.prog W base spare held n 9 ((cs.drop 3).take (Tryd.prog.cellsOf 9)) = xs[3]? := hd 3 _ rfl
  rw [cK] at g0
  rw [cN] at g1
  rw [cF] at g2
  rw [cS] at g3
  obtain ⟨a, b, c, d, rfl⟩ := four_of hl'
  have one : ∀ i, i < 4 → ∃ y, xs[i]? = some y := fun i hi => by
    have e : xs.length = 4 := hx
    exact ⟨_, List.getElem?_eq_getElem (by omega)⟩
  obtain ⟨y0, e0⟩ := one 0 (by omega)
  obtain ⟨y1, e1⟩ := one 1 (by omega)
  obtain ⟨y2, e2⟩ := one 2 (by omega)
  obtain ⟨y3, e3⟩ := one 3 (by omega)
  rw [e0] at g0
  rw [e1] at g1
  rw [e2] at g2
  rw [e3] at g3
  obtain ⟨k, h0, _, w0⟩ := DataW.trod_int Tryd.underlying24 g0
  obtain ⟨m, h1, _, w1⟩ := DataW.trod_int Tryd.underlying2 g1
  obtain ⟨f, h2, w2⟩ := trod_fl Tryd.underlying25 g2
  obtain ⟨s, h3, _, w3⟩ := DataW.trod_string Tryd.underlying9 g3
  simp at h0 h1 h2 h3
  subst h0 h1 h2 h3
  exact ⟨⟨k, m, f, s⟩, ⟨w0, w1, w2, w3⟩, rfl⟩
theorem open_v {v : Value} {d : DataW H} {p : List MemPlace} (hv : ∃ cs, v = .agg cs ∧ cs.size = Tryd.prog.cellsOf 27) (h : DataW.Trod enc Tryd.prog W base spare held 27 v d p) :
    ∃ s : V, v = .agg s.cells.toArray ∧ (0 ≤ s.kind ∧ s.kind ≤ 255) ∧ s.fl < 18446744073709551616 ∧ s.str.size ≤ 9223372036854775807 := by
  obtain ⟨cs, rfl, _⟩ := hv
  obtain ⟨fuel, hf⟩ := h
  obtain ⟨s, ⟨w0, _, w2, w3⟩, hs⟩ := trod_v hf
  have e : cs = s.cells.toArray := by
    have : cs.toList = s.cells := hs
    rw [← this]
  subst e
  refine ⟨s, rfl, ?_, ?_, w3⟩
  · simp only [Lit.wf, IntKind.min, IntKind.max, IntKind.signed, IntKind.bits, Bool.and_eq_true] at w0
    simpa using w0
  · simpa [Lit.wf] using w2
end
end Go.Proofs.YtodjcgkbcbaadaaDoor.Va
