/- From a row's laid tables to the names in memory. -/
import Derived.Test.YtodjcgkbcbaadaaDoorNameW
import Derived.Lib.LaidTab
import Derived.Lib.LaidU8
import Derived.ChangeArms
import Derived.FnData
namespace Go.Proofs.YtodjcgkbcbaadaaDoor.Va
open Go.RowKit Mem
def namesData {H : Type} : DataW H := .agg (names.map fun s => .lit (.string s))
theorem cells_of_names {H : Type} {enc : TypeId × Value → H} {w : World} {base : Nat} {sp : Nat → Bool} {held : Bool} {fuel : Nat} {cs : List Value} {p : List MemPlace}
    (h : DataW.trod enc Tryd.prog w base sp held fuel 74 cs = some (namesData, p)) : cs = names.map fun s => Value.string ⟨s.toArray⟩ := by
  have hce : Tryd.prog.cellsOf 9 = 1 := by kernel_rfl
  have hct : Tryd.prog.cellsOf 74 = 12 := by kernel_rfl
  cases fuel with
  | zero => simp [DataW.trod] at h
  | succ fuel =>
    simp only [DataW.trod, Tryd.underlying74, hce, hct, Nat.mul_one] at h
    split at h
    · rename_i hl
      obtain ⟨xs, hm, hx⟩ := Option.map_eq_some_iff.1 h
      have hxs : xs.map (·.1) = names.map fun s => (DataW.lit (.string s) : DataW H) := by
        have := congrArg Prod.fst hx
        simpa [namesData] using this
      have hxl : xs.length = 12 := by simpa using Lib.mapM_length hm
      have hzl : names.length = 12 := rfl
      apply List.ext_getElem?
      intro i
      by_cases hi : i < 12
      · obtain ⟨b, hb, hf⟩ := Lib.mapM_at hm i i (by simp [hi])
        obtain ⟨s, hc, rfl, _⟩ := DataW.trod_string Tryd.underlying9 hf
        have h1 : cs[i]? = some (.string s) := by
          have := congrArg (·[0]?) hc
          simpa [List.getElem?_take, List.getElem?_drop] using this
        have h2 : (xs.map (·.1))[i]? = some (DataW.lit (.string s.data.toList) : DataW H) := by simp [hb]
        rw [hxs] at h2
        simp only [List.getElem?_map, Option.map_eq_some_iff, DataW.lit.injEq, Lit.string.injEq] at h2
        obtain ⟨z', hz', hz⟩ := h2
        rw [h1, List.getElem?_map, hz', hz]
        rfl
      · rw [List.getElem?_eq_none (by omega), List.getElem?_eq_none (by simp; omega)]
    · cases h
theorem names_at {name : String} {g : Nat} {W : World} (hg : Tryd.prog.globalNamed name = some g) (hty : (Tryd.prog.globals[g]?).map (·.type) = some 74) (h : Lib.VarReads Tryd.prog W name namesData) : NamesAt g W := by
  obtain ⟨g', t', cs, fuel, p, hg', ht', hvar, hd⟩ := h
  obtain rfl := Option.some.inj (hg.symm.trans hg')
  obtain rfl := Option.some.inj (hty.symm.trans ht')
  have hc := cells_of_names hd
  intro i hi
  rw [World.var?_cell hg hvar i, ← Array.getElem?_toList, hc, List.getElem?_map, List.getElem?_eq_getElem (show i < names.length from hi)]
  unfold nmB
  rw [List.getD_eq_getElem?_getD, List.getElem?_eq_getElem (show i < names.length from hi)]
  rfl
end Go.Proofs.YtodjcgkbcbaadaaDoor.Va
