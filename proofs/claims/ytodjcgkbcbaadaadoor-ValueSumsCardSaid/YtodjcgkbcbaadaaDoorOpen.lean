/- Opening a law's arguments: what the reading of a slice of bytes says of the cells. -/
import Derived.Test.YtodjcgkbcbaadaaDoorMem
import Derived.ProofKit
import Derived.OpenShut
import Derived.SizedLaws
namespace Go.Proofs.YtodjcgkbcbaadaaDoor.Mem
open Go.RowKit Go.ChangeShapes Go.WideShapes Go.ChangeAt

theorem u8_of_wf {n : Int} (h : (Lit.int .u8 n).wf = true) : ((BitVec.ofInt 8 n).toNat : Int) = n := by
  have := bounds_u8 h
  rw [BitVec.toNat_ofInt]; simp; omega

theorem open_bytes {H : Type} {enc : TypeId × Value → H} {P : Program} {W : World} {t e : TypeId} {a : Option Addr} {len cap : Nat} {d : DataW H} {p : List MemPlace}
    (ht : P.underlying t = some (.slice e)) (he : P.underlying e = some (.int .u8)) (hc : P.cellsOf e = 1) (hb : P.bytesOf e = 1)
    {ts : List TypeId} {ds : List (DataW H)} {j : Nat} (hsz : (DataW.weightsEach P ts ds).all (· ≤ reachBytes) = true) (hts : ts[j]? = some t) (hds : ds[j]? = some d)
    (h : DataW.Trod enc P W 0 (fun _ => true) true t (.slice a len cap) d p) :
    ∃ bs : List (BitVec 8), BytesAt W a bs ∧ len = bs.length ∧ len ≤ cap ∧ cap ≤ 140737488351232 := by
  obtain ⟨fuel, hf⟩ := h
  rcases open_ints ht he hc hf with ⟨hcs, _⟩ | ⟨x, l, c, zs, hcs, _, hl, hm, hz, hx, hcell, hwz⟩
  · simp [Value.cells] at hcs
    obtain ⟨rfl, rfl, rfl⟩ := hcs
    exact ⟨[], .inl rfl, rfl, Nat.le_refl _, by omega⟩
  · simp [Value.cells] at hcs
    obtain ⟨rfl, rfl, rfl⟩ := hcs
    simp only [Prod.mk.injEq] at hx
    obtain ⟨rfl, -⟩ := hx
    simp only [if_true] at hz
    have hr := sized_slice hsz hts hds ht
    simp only [lits, List.length_map, List.length_take, List.length_drop, reachBytes, hb] at hr
    refine ⟨(zs.take len).map (BitVec.ofInt 8), ?_, by simp; omega, hl, by omega⟩
    rcases Nat.eq_zero_or_pos len with h0 | hp
    · exact .inl (by simp [h0])
    · obtain ⟨b, off, rfl, hcc⟩ := ints_at hcell (by omega)
      refine .inr ⟨b, off, rfl, lt_of_cell (hcc 0 (by omega)), fun i hi => ?_⟩
      simp at hi
      rw [hcc i (by omega)]
      have hw := u8_of_wf (hwz (zs[i]'(by omega)) (List.getElem_mem _))
      simp only [List.getD_eq_getElem?_getD, List.getElem?_map, List.getElem?_take, if_pos (show i < len by omega), List.getElem?_eq_getElem (show i < zs.length by omega), Option.map_some, Option.getD_some, hw]
end Go.Proofs.YtodjcgkbcbaadaaDoor.Mem
