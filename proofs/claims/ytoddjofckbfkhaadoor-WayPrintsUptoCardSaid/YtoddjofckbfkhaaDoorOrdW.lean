/- The plain law of the order of ways. -/
import Derived.Test.YtoddjofckbfkhaaDoorOrdP
import Derived.Test.YtoddjofckbfkhaaDoorStartsW
namespace Go.Proofs.YtoddjofckbfkhaaDoor.Wy
/-- What a step is compared by. -/
def St.k (s : St) : (Int × List UInt8) × Int := ((s.kind, s.key.toList), s.num)
def cmpK : (Int × List UInt8) × Int → (Int × List UInt8) × Int → Int := lex (lex cmpZ cmpT) cmpZ
theorem cmpK_is : IsCmp cmpK := lex_is (lex_is cmpZ_is cmpT_is) cmpZ_is
theorem cmpSt_k (s t : St) : cmpSt s t = cmpK s.k t.k := by
  unfold cmpSt cmpK lex St.k
  simp only [orL]
  by_cases h1 : cmpZ s.kind t.kind = 0 <;> by_cases h2 : cmpT s.key.toList t.key.toList = 0 <;> by_cases h3 : cmpZ s.num t.num = 0 <;> simp [h1, h2, h3]
theorem cmpW_k : ∀ l m : List St, cmpW l m = lexL cmpK (l.map St.k) (m.map St.k)
  | [], [] => rfl
  | [], _ :: _ => rfl
  | _ :: _, [] => rfl
  | s :: l, t :: m => by rw [cmpW, List.map_cons, List.map_cons, lexL, cmpSt_k, cmpW_k l m]
theorem eqSt_k (s t : St) : eqSt s t = decide (s.k = t.k) := by
  unfold eqSt St.k
  by_cases h1 : s.kind = t.kind <;> by_cases h2 : s.key.toList = t.key.toList <;> by_cases h3 : s.num = t.num <;> simp [h1, h2, h3]
theorem eqL_k : ∀ l m : List St, eqL l m = decide (l.map St.k = m.map St.k)
  | [], [] => rfl
  | [], _ :: _ => rfl
  | _ :: _, [] => rfl
  | s :: l, t :: m => by
    rw [eqL, eqL_k l m, eqSt_k]
    by_cases h1 : s.k = t.k <;> by_cases h2 : l.map St.k = m.map St.k <;> simp [h1, h2]
end Go.Proofs.YtoddjofckbfkhaaDoor.Wy
