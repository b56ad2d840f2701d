/- Opening a law's arguments: arrays of bytes by value, structs of such, slices of whatever is known of an element's cells. -/
import Derived.Test.YtodjcgkbcbaadaaDoorRow
import Derived.Test.YtodjcgkbcbaadaaDoorOpen
import Derived.Deep.Slices
import Derived.DataReads
namespace Go.Proofs.YtodjcgkbcbaadaaDoor.Mem
open Go.RowKit Go.ChangeShapes Go.WideShapes Go.ChangeAt
section
variable {H : Type} {enc : TypeId × Value → H} {P : Program} {W : World} {base : Nat} {spare : Nat → Bool} {held : Bool}

theorem u8_back {n : Int} (h : (Lit.int .u8 n).wf = true) : ((UInt8.ofNat n.toNat).toNat : Int) = n := by
  have := bounds_u8 h
  simp; omega

/-- The cells of an array of bytes. -/
theorem trod_bytes {t e : TypeId} {n fuel : Nat} {cs : List Value} {x : DataW H × List MemPlace} (ht : P.underlying t = some (.array n e)) (he : P.underlying e = some (.int .u8)) (hc : P.cellsOf e = 1) (hn : P.cellsOf t = n)
    (h : DataW.trod enc P W base spare held fuel t cs = some x) : ∃ b : List UInt8, b.length = n ∧ cs = bytesU b := by
  obtain ⟨xs, m, _, _, hl, hx, hd⟩ := DataW.trod_array ht h
  rw [hn] at hl
  have each : ∀ i, i < n → ∃ k : Int, cs[i]? = some (.int .u8 k) ∧ (Lit.int .u8 k).wf = true := fun i hi => by
    have h1 := hd i hi
    rw [hc, List.getElem?_eq_getElem (by omega)] at h1
    obtain ⟨k, hk, _, hw⟩ := DataW.trod_int he h1
    refine ⟨k, ?_, hw⟩
    have h2 := congrArg (·[0]?) hk
    simpa using h2
  refine ⟨(List.range n).map fun i => match cs[i]? with | some (Value.int _ k) => UInt8.ofNat k.toNat | _ => 0, by simp, ?_⟩
  apply List.ext_getElem?
  intro i
  by_cases hi : i < n
  · obtain ⟨k, hk, hw⟩ := each i hi
    simp only [bytesU, List.getElem?_map, List.getElem?_range hi, Option.map_some, hk]
    rw [u8_back hw]
  · rw [List.getElem?_eq_none (by omega), List.getElem?_eq_none (by simp; omega)]

theorem open_arr {r : Reach} {b0 : Nat} {t e : TypeId} {n : Nat} {v : Value} {d : DataW H} {p : List MemPlace} (ht : P.underlying t = some (.array n e)) (he : P.underlying e = some (.int .u8)) (hc : P.cellsOf e = 1) (hn : P.cellsOf t = n)
    (hv : Value.okWide P W r b0 t v) (h : DataW.Trod enc P W base spare held t v d p) : ∃ b : List UInt8, b.length = n ∧ v = .agg (bytesU b).toArray := by
  simp only [Value.okWide, ht] at hv
  obtain ⟨cs, rfl, _, _⟩ := hv
  obtain ⟨fuel, hf⟩ := h
  obtain ⟨b, hb, hcs⟩ := trod_bytes ht he hc hn hf
  refine ⟨b, hb, ?_⟩
  simp only [Value.cells] at hcs
  rw [← hcs]

/-- The elements of a slice, one behind the other. -/
theorem open_rows {α : Type} {f : α → List Value} {q : α → Prop} {t e : TypeId} {s : Nat} {a0 : Option Addr} {len cap : Nat} {d : DataW H} {p : List MemPlace} (ht : P.underlying t = some (.slice e)) (hc : P.cellsOf e = s) (hs : 0 < s)
    (hdec : ∀ (fuel : Nat) (cs : List Value) (x : DataW H × List MemPlace), DataW.trod enc P W base spare held fuel e cs = some x → ∃ a, q a ∧ cs = f a)
    (h : DataW.Trod enc P W base spare held t (.slice a0 len cap) d p) : ∃ l : List α, l.length = len ∧ (∀ a ∈ l, q a) ∧ Row W a0 (l.flatMap f) ∧ len ≤ cap ∧ cap ≤ maxLen ∧ (d = .nil ∧ cap = 0 ∨ ∃ es sp, d = .slice es sp ∧ es.length = len ∧ (spare = (fun _ => true) → sp.length = cap - len)) := by
  obtain ⟨fuel, hf⟩ := h
  rcases Go.Deep.open_slice ht hf with ⟨hcs, hx⟩ | ⟨a, len', cap', m, n, D, Pl, hcs, hb, hl, hm, hmm, hx, hel⟩
  · simp [Value.cells] at hcs
    obtain ⟨rfl, rfl, rfl⟩ := hcs
    simp only [Prod.mk.injEq] at hx
    exact ⟨[], rfl, by simp, .inl rfl, Nat.le_refl _, by unfold maxLen; omega, .inl ⟨hx.1, rfl⟩⟩
  · simp [Value.cells] at hcs
    obtain ⟨rfl, rfl, rfl⟩ := hcs
    simp only [Prod.mk.injEq] at hx
    have hlm : len ≤ m := by rw [hmm]; split <;> omega
    rw [hc] at hel
    have each : ∀ i, i < len → ∃ y : α, q y ∧ (f y).length = s ∧ ∀ j v, (f y)[j]? = some v → W.cell? (a.add (i * s + j)) = some v := fun i hi => by
      obtain ⟨cs', h1, h2⟩ := hel i (by omega)
      obtain ⟨y, hy, rfl⟩ := hdec _ _ _ h2
      obtain ⟨_, hlen, hcell⟩ := World.cells?_some h1
      refine ⟨y, hy, hlen, fun j v hj => ?_⟩
      have hj' : j < s := by
        rcases Nat.lt_or_ge j s with k | k
        · exact k
        · rw [List.getElem?_eq_none (by omega)] at hj; cases hj
      have := hcell j hj'
      rw [hj] at this
      rw [← this]
      congr 1
      unfold Addr.add
      split <;> split <;> split <;> simp_all <;> omega
    have build : ∀ k, k ≤ len → ∃ l : List α, l.length = k ∧ (∀ y ∈ l, q y) ∧ (l.flatMap f).length = k * s ∧ ∀ i v, (l.flatMap f)[i]? = some v → W.cell? (a.add i) = some v := by
      intro k
      induction k with
      | zero => exact fun _ => ⟨[], rfl, by simp, by simp, fun i v hv => by simp at hv⟩
      | succ k ih =>
        intro hk
        obtain ⟨l, h1, h2, h3, h4⟩ := ih (by omega)
        obtain ⟨y, hy, hyl, hyc⟩ := each k (by omega)
        refine ⟨l ++ [y], by simp [h1], fun z hz => ?_, by simp [h3, hyl, Nat.add_mul], fun i v hv => ?_⟩
        · rcases List.mem_append.1 hz with hz | hz
          · exact h2 z hz
          · obtain rfl : z = y := by simpa using hz
            exact hy
        · simp only [List.flatMap_append, List.flatMap_cons, List.flatMap_nil, List.append_nil] at hv
          rcases Nat.lt_or_ge i (k * s) with q1 | q1
          · rw [List.getElem?_append_left (by omega)] at hv
            exact h4 i v hv
          · rw [List.getElem?_append_right (by omega), h3] at hv
            have := hyc (i - k * s) v hv
            rwa [show k * s + (i - k * s) = i from by omega] at this
    obtain ⟨l, h1, h2, h3, h4⟩ := build len (Nat.le_refl _)
    refine ⟨l, h1, h2, ?_, hl, hm, .inr ⟨_, _, hx.1, by simp, fun hsp => by simp [hmm, hsp]⟩⟩
    rcases Nat.eq_zero_or_pos len with h0 | hp
    · left; subst h0; obtain rfl : l = [] := by simpa using h1
      rfl
    · right
      have hpos : 0 < (l.flatMap f).length := by rw [h3]; exact Nat.mul_pos hp hs
      obtain ⟨b, off, spot⟩ := a
      have h00 := h4 0 _ (List.getElem?_eq_getElem hpos)
      have hspot : spot = none := by simpa [Addr.add] using World.cell?_spot h00
      subst hspot
      refine ⟨b, off, rfl, ?_, fun i v hv => ?_⟩
      · have := lt_of_cell h00
        simpa [Addr.add] using this
      · have := h4 i v hv
        rwa [Go.WideShapes.add_plain] at this
end
end Go.Proofs.YtodjcgkbcbaadaaDoor.Mem
