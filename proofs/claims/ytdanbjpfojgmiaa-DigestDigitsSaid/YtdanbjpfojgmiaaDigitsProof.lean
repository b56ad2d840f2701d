/- DigestDigits: for every two hashes, text and number the digits, what a text reads as, the short form and the order are the document's. -/
import Derived.Test.YtdanbjpfojgmiaaBkW
import Derived.Test.YtdanbjpfojgmiaaOpen2
import Derived.WalkKit
import Derived.ProofKit
import Derived.OpenShut
import Derived.ShutString
import Derived.ChangeOld
import Derived.Below
namespace Go.Proofs.Ytdanbjpfojgmiaa.digestDigits
open Go.ChangeShapes Go.WideShapes Go.ChangeAt Go.RowKit
open Go.ChangeMaps (open_string shut_string)
set_option linter.unusedVariables false

theorem own : ownKnob Try.prog.godebug = none := by kernel_rfl
theorem laidOut : laidOutB Try.prog = true := by kernel_rfl

theorem open_two {H : Type} {enc : TypeId × Value → H} {W : World} {base : Nat} {spare : Nat → Bool} {held : Bool} {r : Reach} {b0 : Nat} {v : Value} {d : DataW H} {p : List MemPlace} (hv : Value.okWide Try.prog W r b0 35 v) (h : DataW.Trod enc Try.prog W base spare held 35 v d p) :
    ∃ a b : List UInt8, a.length = 32 ∧ b.length = 32 ∧ v = .agg (Mem.bytesU (a ++ b)).toArray := by
  obtain ⟨cs, rfl, _⟩ := okWide_struct Try.underlying35 hv
  obtain ⟨fuel, hf⟩ := h
  obtain ⟨xs, n, _, _, hl, _, hd⟩ := DataW.trod_struct Try.underlying35 hf
  have hl' : cs.toList.length = 64 := hl.trans (by kernel_rfl)
  have c27 : Try.prog.cellsOf 27 = 32 := by kernel_rfl
  have g0 : DataW.trod enc Try.prog W base spare held n 27 ((cs.toList.drop 0).take (Try.prog.cellsOf 27)) = xs[0]? := hd 0 _ rfl
  have g1 : DataW.trod enc Try.prog W base spare held n 27 ((cs.toList.drop 32).take (Try.prog.cellsOf 27)) = xs[1]? := hd 1 _ rfl
  rw [c27] at g0 g1
  cases e0 : xs[0]? with
  | none => rw [e0] at g0; rename_i hx; rw [List.getElem?_eq_none_iff] at e0; simp_all
  | some x0 =>
    cases e1 : xs[1]? with
    | none => rw [List.getElem?_eq_none_iff] at e1; simp_all
    | some x1 =>
      rw [e0] at g0
      rw [e1] at g1
      obtain ⟨a, ha, ca⟩ := Mem.trod_bytes Try.underlying27 Try.underlying5 (by kernel_rfl) c27 g0
      obtain ⟨b, hb, cb⟩ := Mem.trod_bytes Try.underlying27 Try.underlying5 (by kernel_rfl) c27 g1
      refine ⟨a, b, ha, hb, ?_⟩
      rw [Mem.bytesU_append, ← ca, ← cb]
      congr 1
      apply Array.ext'
      rw [List.drop_zero, List.take_of_length_le (l := cs.toList.drop 32) (by simp at hl' ⊢; omega)]
      exact (List.take_append_drop 32 cs.toList).symm

set_option maxRecDepth 100000 in
theorem lifted (os : Os) (started : os.Started) (H : Type) (enc : TypeId × Value → H) :
    ReturnsInHanded {} Try.checked os 5 .any (Rows.digestDigitsSpec.pre6 enc Try.prog Try.f5 Rows.digestDigitsRow.domain false) (Rows.digestDigitsSpec.post enc Try.prog Try.f5 false true false false) := by
  refine returnsInHanded_of_change_sized (C := Try.checked) own started (by kernel_rfl) Try.func5
    (ChangeSpec.witness6 (enc := enc) (C := Try.checked) false ⟨#[], #[.agg (Array.replicate 64 (.int .u8 0)), .string ⟨#[]⟩, .int .i64 0], []⟩ 8 (by kernel_rfl) (by kernel_rfl) (by kernel_rfl) (by kernel_rfl)) ?_
  intro W base args ds gs before hval0 hW hcnd hsz0 _
  have hsz : (DataW.weightsEach Try.prog (Try.f5.params.toList ++ Rows.digestDigitsSpec.plain.varTypes Try.prog) (ds ++ gs)).all (· ≤ reachBytes) = true := hsz0
  clear hsz0
  have hval : ∀ (j : Nat) t v, Try.f5.params[j]? = some t → args[j]? = some v → Value.okWide Try.prog W .any base t v := hval0
  have hW' := hW
  obtain ⟨p, q, hA0, hV, rfl, hfz, hnd⟩ := hW
  have hA : DataW.TrodAll enc Try.prog W 0 (fun _ => true) true Try.f5.params.toList args.toList ds p := hA0
  rw [Try.params5] at hA hval hsz
  obtain ⟨v0, vs0, d0, ds0, p0, q0, hargs, rfl, rfl, h0, r0⟩ := trodAll_cons hA
  obtain ⟨v1, vs1, d1, ds1, p1, q1, rfl, rfl, rfl, h1, r1⟩ := trodAll_cons r0
  obtain ⟨v2, vs2, d2, ds2, p2, q2, rfl, rfl, rfl, h2, r2⟩ := trodAll_cons r1
  obtain ⟨rfl, rfl, rfl⟩ := trodAll_nil r2
  obtain rfl : args = #[v0, v1, v2] := by cases args; simp_all
  obtain ⟨rfl, rfl⟩ := trodVars_none hV
  have k0 := h0
  have lt0 : ∀ x ∈ p0, x.block < W.heap.size := by obtain ⟨m, hm⟩ := h0; exact DataW.trod_lt m _ _ _ hm
  have k1 := h1
  have lt1 : ∀ x ∈ p1, x.block < W.heap.size := by obtain ⟨m, hm⟩ := h1; exact DataW.trod_lt m _ _ _ hm
  have k2 := h2
  have lt2 : ∀ x ∈ p2, x.block < W.heap.size := by obtain ⟨m, hm⟩ := h2; exact DataW.trod_lt m _ _ _ hm
  obtain ⟨a, b, la, lb, rfl⟩ := open_two (hval 0 35 v0 rfl rfl) h0
  obtain ⟨s, rfl, hd1, _, ws⟩ := open_string Try.underlying9 (hval 1 9 v1 rfl rfl) h1
  have rs : s.size ≤ 140737488351232 := by have := sized_string hsz (j := 1) rfl (by rw [hd1]; rfl); simpa [reachBytes] using this
  obtain ⟨n, rfl, _, _, wn⟩ := open_int Try.underlying3 (hval 2 3 v2 rfl rfl) h2
  clear hA0 hval0
  refine (Dg.digits_law a b s n W la lb rs).mono fun e W' ⟨he, bel⟩ => ?_
  subst he
  exact ⟨_, rfl, _, _, _, [], _, [], hW', trodAll_mk1 (shut_bool Try.underlying4 _), (trodAll_cons_mk (Below.trod laidOut (by kernel_rfl) (of_decide_eq_true (by kernel_rfl)) k0 bel lt0) (trodAll_cons_mk (Below.trod laidOut (by kernel_rfl) (of_decide_eq_true (by kernel_rfl)) k1 bel lt1) (trodAll_cons_mk (Below.trod laidOut (by kernel_rfl) (of_decide_eq_true (by kernel_rfl)) k2 bel lt2) trodAll_mk0))), by rfl, bel.frame _, fun h => by cases h⟩

theorem over : Rows.digestDigitsRow.holds Try.pinned (OpenSpec.ofChange Rows.digestDigitsSpec) :=
  OpenClaim.holds_of_wide 5 Try.f5 rfl rfl rfl rfl rfl rfl rfl ⟨rfl, rfl, rfl, rfl, rfl⟩ rfl rfl rfl rfl rfl (by kernel_rfl) Try.func5 (by kernel_rfl)
    (of_decide_eq_true (by kernel_rfl)) (by unfold Func.isWrapper; first | (rw [if_pos (by decide +kernel)]; kernel_rfl) | (rw [if_neg (by decide +kernel)]; exact ⟨rfl, rfl⟩))
    (fun os started H enc _ => lifted os started H enc)

theorem proved : Rows.DigestDigitsSaid := over
#print axioms proved
end Go.Proofs.Ytdanbjpfojgmiaa.digestDigits
