/- append of a whole row to a row of the call's own, a nil source too. Over any program. -/
import Derived.Test.YtoddjofckbfkhaaDoorPl
import Derived.Test.YtoddjofckbfkhaaDoorRow
import Derived.Maps.AppendAt
import Derived.Laws.OwnMore
namespace Go.Proofs.YtoddjofckbfkhaaDoor.Ops
open Go.RowKit Mem
section
variable {P : Program}
/-- What a type's row of the table says of an element. -/
def ElemIs (P : Program) (e : TypeId) (z : Value) (size bytes : Nat) : Prop := (P.info? e).map (fun i => (i.zero, i.size, i.bytes)) = some (some z, size, bytes) ∧ z.cells.size = size ∧ 0 < size ∧ 0 < bytes
theorem run_append_any {W : World} {base : Nat} {t ty e : TypeId} {z : Value} {size bytes : Nat} (ht : P.underlying t = some (.slice e)) (he : ElemIs P e z size bytes)
    {v : Value} {n : Nat} {xs : List Value} (hown : W.ownsRow base e size v n xs) {A : Option Addr} {m c : Nat} {news : List Value} (hl : news.length = m * size) (hnews : Row W A news) (h1 : ∀ u ∈ news, u.oneCell' = true)
    (hle : (n + m) * bytes ≤ 140737488355328) (hbase : base ≤ W.heap.size) :
    ∃ v1 w1, (Builtin.append_ #[t, t] ty #[v, .slice A m c]).run P W = .ok v1 w1 ∧ w1.ownsRow base e size v1 (n + m) (xs ++ news) ∧ W.grownBy w1 v.ownBlock ∧ (v1.ownBlock = v.ownBlock ∨ v1.ownBlock = some W.heap.size) := by
  obtain ⟨hinfo, hzs, hs0, hb0⟩ := he
  obtain ⟨i0, hi, hzz⟩ := Option.map_eq_some_iff.1 hinfo
  simp only [Prod.mk.injEq] at hzz
  obtain ⟨hz0, hz1, hz2⟩ := hzz
  have hlen : n + m ≤ 140737488355328 := Nat.le_trans (Nat.le_mul_of_pos_right _ hb0) hle
  rcases A with _ | ad
  · have h0 : news = [] := by
      rcases hnews with h | ⟨b, off, h, _⟩
      · exact h
      · cases h
    subst h0
    have hm : m = 0 := by
      rcases Nat.eq_zero_or_pos m with h0 | h0
      · exact h0
      · have := Nat.mul_pos h0 hs0
        simp at hl
        omega
    subst hm
    refine ⟨v, W, ?_, by rw [List.append_nil]; exact hown, World.grownBy.refl W _, .inl rfl⟩
    rcases hown.2 with ⟨rfl, hn⟩ | ⟨g, cap, cur, rfl, _, _, hnc, _⟩
    · simp [Builtin.append_, run_underlying ht, sizeOf, typeInfo, hi, Builtin.lenOf, Builtin.firstCells]
    · simp [Builtin.append_, run_underlying ht, sizeOf, typeInfo, hi, Builtin.lenOf, Builtin.firstCells, hnc, storeCells]
  · have hn : ∀ j u, news[j]? = some u → W.cell? (ad.add j) = some u := by
      rcases hnews with h | ⟨b, off, h, _, hc⟩
      · subst h; intro j u hj; simp at hj
      · injection h with h
        subst h
        intro j u hj
        have ha : (⟨b, off, none⟩ : Addr).add j = ⟨b, off + j, none⟩ := by unfold Addr.add; split <;> simp_all
        rw [ha]; exact hc j u hj
    obtain ⟨v1, w1, hr, h2, h3, _, h5⟩ := run_append_own_at (P := P) W base t ty e i0 z size bytes ht hi hz0 hz1 hz2 hzs hs0 v n xs hown ad m c news hl hn h1 (by unfold maxLen; omega) hle hbase
    exact ⟨v1, w1, hr, h2, h3, h5⟩
theorem own_row {W : World} {base : Nat} {e : TypeId} {size : Nat} {v : Value} {n : Nat} {xs : List Value} (h : W.ownsRow base e size v n xs) : ∃ a c, v = .slice a n c ∧ n ≤ c ∧ c ≤ maxLen ∧ Row W a xs ∧ (0 < n → ∃ g, a = some ⟨g, 0, none⟩ ∧ base ≤ g) := by
  rcases h.2 with ⟨rfl, rfl⟩ | ⟨g, cap, cur, rfl, hb, hh, hc, hm, hsz, htk⟩
  · refine ⟨none, 0, rfl, Nat.le_refl _, by unfold maxLen; omega, .inl ?_, fun h => absurd h (Nat.lt_irrefl _)⟩
    have := h.1
    simpa using this
  · refine ⟨_, cap, rfl, hc, hm, ?_, fun _ => ⟨g, rfl, hb⟩⟩
    refine .inr ⟨g, 0, rfl, (Array.getElem?_eq_some_iff.1 hh).1, fun i v hi => ?_⟩
    rw [Nat.zero_add, (show Blk W g cur e from hh).cell i]
    rw [← htk] at hi
    rw [List.getElem?_take] at hi
    split at hi
    · simpa using hi
    · cases hi
end
section
variable {P : Program} {ops : Array Oper} {rest : List Oper} {a : Act} {w : World} {Q : Exit → Act → World → Prop} {dst : Option Tmp} {ty : TypeId} {pos : String} {aft : Array Edge} {gd : Option (Nat × Bool)}
theorem pl_append {w0 : World} (base : Nat) {t e : TypeId} {x y : Operand} {z : Value} {size bytes : Nat} {v : Value} {n : Nat} {xs : List Value} {A : Option Addr} {m c : Nat} {news : List Value} (ht : P.underlying t = some (.slice e)) (he : ElemIs P e z size bytes)
    (hown : w.ownsRow base e size v n xs) (hl : news.length = m * size) (hnews : Row w A news) (h1 : ∀ u ∈ news, u.oneCell' = true) (hle : (n + m) * bytes ≤ 140737488355328) (hB : Below base w0 w) (hbase : base ≤ w.heap.size)
    (hw : Region.wanted ⟨dst, .call ⟨.builtin .append, #[x, y], #[t, t]⟩, ty, pos, aft, gd⟩ (yielded ops a.tmps) = true) (ex : a.eval x = v) (ey : a.eval y = .slice A m c)
    (h : ∀ v1 w1, w1.ownsRow base e size v1 (n + m) (xs ++ news) → Below base w0 w1 → w.grownBy w1 v.ownBlock → (v1.ownBlock = v.ownBlock ∨ v1.ownBlock = some w.heap.size) → wpList P ops Q rest (a.put dst v1) w1) :
    wpList P ops Q (⟨dst, .call ⟨.builtin .append, #[x, y], #[t, t]⟩, ty, pos, aft, gd⟩ :: rest) a w := by
  refine wpList_step fun K hK => ?_
  rw [if_pos hw]
  obtain ⟨v1, w1, hr, h2, h3, h4⟩ := run_append_any (P := P) (ty := ty) (c := c) ht he hown hl hnews h1 hle hbase
  unfold Oper.wp execOp
  simp only [resolve, invoke, builtin, Sem.run_bind, Sem.run_pure, Result.andThen_ok, List.map_toArray, List.map_cons, List.map_nil, ex, ey, hr]
  have hlt := hown.lt
  exact hK _ _ (h v1 w1 h2 (hB.grown h3 hbase (fun k hk => (hlt k hk).1)) h3 h4)
end
end Go.Proofs.YtoddjofckbfkhaaDoor.Ops
