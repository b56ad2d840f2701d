/- The walks of value.Quote and of the document's Quote. -/
import Derived.Test.YtoddjofckbfkhaaDoorEscW
import Derived.Test.YtoddjofckbfkhaaDoorEncP
import Derived.Test.YtoddjofckbfkhaaDoorShelf
import Derived.Test.YtoddjofckbfkhaaDoorShelf2
import Derived.Lib.OthersKept
namespace Go.Proofs.YtoddjofckbfkhaaDoor.Ut
open Go.RowKit Mem Ops Dg
abbrev Tabs (w : World) : Prop := Lib.Utf8Tabs 2 3 w
theorem quoteRef_calls (s : ByteArray) (w : World) (hs : s.size ≤ 1000000000000) : Calls Tryd.prog 34 #[.string s] w (StrR (quoteR s.data.toList) w) := by
  have hu := utf8_calls s w (by omega)
  have hq := quoted_calls s w hs
  unfold StrR quoteR at *
  generalize Lib.validD s.data.toList = V at *
  generalize 34 :: (escL s.data.toList ++ [34]) = R at *
  have HU := Lib.hid hu
  have HQ := Lib.hid hq
  clear hu hq
  cases V
  · go_enter Tryd.func34, Tryd.ntmps34
    go_wp2_with (first | (go_at_call 65; refine HU.out.mono ?_; rintro e w1 ⟨rfl, rfl⟩))
    go_ret
    exact ⟨rfl, Below.refl _ _⟩
  · go_enter Tryd.func34, Tryd.ntmps34
    go_wp2_with (first | (go_at_call 65; refine HU.out.mono ?_; rintro e w1 ⟨rfl, rfl⟩) | (go_at_call 66; refine HQ.out.mono ?_; rintro e w2 ⟨rfl, hb⟩))
    go_ret
    exact ⟨rfl, hb⟩
theorem esc_high {c : UInt8} (h : 128 ≤ c.toNat) : esc c = [c] := by
  unfold esc
  rw [if_neg (by rintro rfl; simp at h), if_neg (by rintro rfl; simp at h), if_neg (by rintro rfl; simp at h), if_neg (by rintro rfl; simp at h), if_neg (by rintro rfl; simp at h), if_neg (by omega)]
theorem escL_high : ∀ l : List UInt8, (∀ c ∈ l, 128 ≤ c.toNat) → escL l = l
  | [], _ => rfl
  | c :: l, h => by
    have := escL_high l (fun x hx => h x (by simp [hx]))
    unfold escL at *
    rw [List.flatMap_cons, esc_high (h c (by simp)), this]
    rfl
/-- An iterator's block is none of a row's. -/
theorem iter_grown {w w1 : World} {base e size n : Nat} {v : Value} {xs : List Value} (h : w.ownsRow base e size v n xs) (hg : w.grownBy w1 v.ownBlock) {it : Nat} {s : ByteArray} {k : Nat} (hi : w.heap[it]? = some (.stringIter s k)) : w1.heap[it]? = some (.stringIter s k) := by
  have hlt : it < w.heap.size := (Array.getElem?_eq_some_iff.1 hi).1
  rw [hg.block it hlt ?_]
  · exact hi
  · rcases h.2 with ⟨rfl, _⟩ | ⟨g, cap, cur, rfl, _, hh, _⟩
    · simp [Value.ownBlock]
    · intro e
      simp [Value.ownBlock] at e
      subst e
      rw [hi] at hh
      cases hh
theorem own_iter {w : World} {base e size n : Nat} {v : Value} {xs : List Value} (h : w.ownsRow base e size v n xs) {it : Nat} {s : ByteArray} {k k2 : Nat} (hi : w.heap[it]? = some (.stringIter s k)) : (w.iterAt it s k2).ownsRow base e size v n xs := by
  refine ⟨h.1, ?_⟩
  rcases h.2 with h2 | ⟨g, cap, cur, rfl, hg, hh, r⟩
  · exact .inl h2
  · refine .inr ⟨g, cap, cur, rfl, hg, ?_, r⟩
    rw [Lib.iterAt_other]
    · exact hh
    · rintro rfl
      rw [hi] at hh
      cases hh
theorem iter_alloc {w : World} {it : Nat} {s : ByteArray} {k : Nat} (hi : w.heap[it]? = some (.stringIter s k)) (o : Obj) : (w.alloc o).heap[it]? = some (.stringIter s k) := by
  have hlt : it < w.heap.size := (Array.getElem?_eq_some_iff.1 hi).1
  rw [Below.heap_alloc _ _ _ hlt]; exact hi
theorem iter_below {w w1 : World} {it : Nat} {s : ByteArray} {k : Nat} (hi : w.heap[it]? = some (.stringIter s k)) (hb : Below w.heap.size w w1) : w1.heap[it]? = some (.stringIter s k) := by
  have hlt : it < w.heap.size := (Array.getElem?_eq_some_iff.1 hi).1
  rw [hb.block it hlt]; exact hi
theorem esc_front (l : List UInt8) (k : Nat) (hk : k < l.length) (B R : List UInt8) (hR : B ++ (escL (l.drop k) ++ [34]) = R) : (B ++ esc (l.getD k 0)) ++ (escL (l.drop (k + 1)) ++ [34]) = R := by
  rw [escL_drop l k hk] at hR
  rw [← hR]; simp
theorem esc_rune (l : List UInt8) (k d : Nat) (hh : ∀ c ∈ (l.drop k).take d, 128 ≤ c.toNat) (B R : List UInt8) (hR : B ++ (escL (l.drop k) ++ [34]) = R) : (B ++ (l.drop k).take d) ++ (escL (l.drop (k + d)) ++ [34]) = R := by
  have e : escL (l.drop k) = escL ((l.drop k).take d) ++ escL ((l.drop k).drop d) := by rw [← escL_append, List.take_append_drop]
  rw [← hR, e, escL_high _ hh, List.drop_drop]
  simp
set_option maxRecDepth 100000 in
set_option maxHeartbeats 4000000 in
theorem quote_calls (s : ByteArray) (w : World) (hs : s.size ≤ 1000000000000) (hT : Tabs w) : Calls Tryd.prog 32 #[.string s] w (StrR (quoteR s.data.toList) w) := by
  have hv := Tryd.utf8_ValidString s w (by omega) hT
  unfold StrR quoteR
  obtain ⟨V, hV⟩ : ∃ V, Lib.validD s.data.toList = V := ⟨_, rfl⟩
  rw [hV] at hv ⊢
  have HV := Lib.hid hv
  cases V
  · clear hV hv hT
    go_enter Tryd.func32, Tryd.ntmps32
    go_wp2_with (first | (go_at_call 61; refine HV.out.mono ?_; rintro e w1 ⟨rfl, hb1⟩))
    go_ret
    exact ⟨rfl, hb1⟩
  · rw [if_pos rfl]
    obtain ⟨R, hR⟩ : ∃ R, 34 :: (escL s.data.toList ++ [34]) = R := ⟨_, rfl⟩
    rw [hR]
    have HR : Hid ([34] ++ (escL (s.data.toList.drop 0) ++ [34]) = R) := Lib.hid hR
    have HL : Hid (Lib.validD (s.data.toList.drop 0) = true) := Lib.hid hV
    clear hV hv hT hR
    go_enter Tryd.func32, Tryd.ntmps32
    go_wp2_with (first | (go_at_call 61; refine HV.out.mono ?_; rintro e w1 ⟨rfl, hb1⟩) | ((with_reducible refine pl_lit_b1 34 Tryd.underlying82 el5 ?_ ?_ ?_); (· rfl); (· rfl)))
    clear HV
    have hz1 := hb1.size
    have hB0 := (hb1.alloc hz1 (.cells (bytesU [34]).toArray 5)).alloc (by simp; omega) (.stringIter s 0)
    have hO0 := (own_new (w := w1) (base := w.heap.size) [34] (e := 5) hz1 (by decide)).alloc (.stringIter s 0)
    have hI0 : ((w1.alloc (.cells (bytesU [34]).toArray 5)).alloc (.stringIter s 0)).heap[w1.heap.size + 1]? = some (.stringIter s 0) := by
      have := World.iter_heap (w1.alloc (.cells (bytesU [34]).toArray 5)) s 0
      simpa [World.iter] using this
    go_loopg [3] (s.size + 1) (fun gk v wx => ∃ k : Nat, k ≤ s.size ∧ s.size - k < gk ∧ Hid (Lib.validD (s.data.toList.drop k) = true) ∧ (∃ B : List UInt8, B.length ≤ 6 * k + 1 ∧ Hid (B ++ (escL (s.data.toList.drop k) ++ [34]) = R) ∧ wx.ownsRow w.heap.size 5 1 v B.length (bytesU B)) ∧ Hid (wx.heap[w1.heap.size + 1]? = some (.stringIter s k)) ∧ Below w.heap.size w wx)
    case atStart => exact ⟨0, Nat.zero_le _, by omega, HL, ⟨[34], by decide, HR, hO0⟩, Lib.hid hI0, hB0⟩
    case round =>
      clear HR HL hB0 hO0 hI0
      obtain ⟨k, hk, hg, hL, ⟨B, hBl, hr, hown⟩, hI, hbel⟩ := hrel
      obtain ⟨g', rfl⟩ : ∃ g', gk = g' + 1 := ⟨gk - 1, by omega⟩
      have hws := hbel.size
      by_cases hlt : k < s.size
      · obtain ⟨r, d, hd⟩ : ∃ r d, Utf8.decode s k = (r, d) := ⟨_, _, rfl⟩
        have hlen := len_str s
        have hne : s.data.toList.drop k ≠ [] := by intro e; have := congrArg List.length e; simp at this; omega
        have RA := rune_at (s.data.toList.drop k) hne hL.out r d (by rw [Lib.decodeL_drop]; exact hd)
        have hn := Lib.run_next_any_at (P := Tryd.prog) wr (w1.heap.size + 1) s k 0 hI.out hlt
        have hi3 := Lib.iterAt_heap wr (w1.heap.size + 1) s k (k + d) hI.out
        have ho3 := own_iter (k2 := k + d) hown hI.out
        have hb3 := Lib.below_iterAt hbel (show w.heap.size ≤ w1.heap.size + 1 by omega) s (k + d)
        rw [hd] at hn
        simp only at hn
        generalize hw3 : wr.iterAt (w1.heap.size + 1) s (k + d) = w3 at *
        have HI3 := Lib.hid hi3
        have HRest := Lib.hid RA.rest
        rw [List.drop_drop] at HRest
        have hz3 := hb3.size
        have hdl := RA.le
        rw [List.length_drop, hlen] at hdl
        have hg0 : (s.data.toList.drop k).getD 0 0 = s.data.toList.getD k 0 := by
          simp [List.getD_eq_getElem?_getD, List.getElem?_drop]
        by_cases hlo : ((s.data.toList.drop k).getD 0 0).toNat < 128
        · have HR := Lib.hid (esc_front s.data.toList k (by rw [hlen]; exact hlt) B R hr.out)
          obtain ⟨hr1, hd1⟩ := RA.low hlo
          rw [hg0] at hr1 hlo
          generalize s.data.toList.getD k 0 = c at *
          subst hr1 hd1
          have he := Lib.hid (escaped_calls c w3)
          have hel := esc_len c
          unfold StrR at he
          generalize hE : esc c = E at *
          have ez : (⟨E.toArray⟩ : ByteArray).size = E.length := size_mk E
          have a1 : B.length + (⟨E.toArray⟩ : ByteArray).size ≤ 140737488355328 := by omega
          have a2 : (c.toNat : Int) < 128 := by omega
          have a3 : IntKind.u8.wrap (c.toNat : Int) = (c.toNat : Int) := by rw [IntKind.wrap_u8']; omega
          have a4 : (0 : Int) ≤ (c.toNat : Int) := by omega
          have HX := Lib.hid ez
          clear hd hne RA hL hI hi3 hr hg0 hE ez hlo
          go_wp2_with (first | (go_at_call 62; refine he.out.mono ?_; rintro e w4 ⟨rfl, hb4⟩; have hB4 := hb3.trans (hb4.mono hz3); have hO4 := own_below ho3 hb4; have HI4 := Lib.hid (iter_below HI3.out hb4); have hz4 := hB4.size) | ((with_reducible refine pl_append_str w.heap.size ⟨E.toArray⟩ Tryd.underlying82 Tryd.underlying9 el5 hO4 a1 hB4 hz4 ?_ ?_ ?_ ?_); (· rfl); (· rfl); (· rfl); intro v5 w5 hO5 hB5 hG5; have HI5 := Lib.hid (iter_grown hO4 hG5 HI4.out)))
          go_roundg g'
          case rel => exact ⟨k + 1, by omega, by omega, HRest, ⟨B ++ E, by have := HX.out; simp; omega, HR, own_bytes hO5 rfl HX.out⟩, HI5, hB5⟩
          case measure => omega
        · have hhi := RA.high (by omega)
          have HR := Lib.hid (esc_rune s.data.toList k d hhi.2 B R hr.out)
          have hc := RA.cells
          have hp := RA.pos
          have ht := RA.top
          have hrr := hhi.1
          have hA := Tryd.utf8_AppendRune_plain w.heap.size u3 B.length (bytesU B) (r : Int) (by omega) (by omega) w3 ho3 (by omega) hz3
          rw [hc] at hA
          have htl : ((s.data.toList.drop k).take d).length = d := by rw [List.length_take, List.length_drop, hlen]; omega
          generalize (s.data.toList.drop k).take d = E at *
          have HA := Lib.hid hA
          have HX := Lib.hid htl
          have a2 : ¬ (r : Int) < 128 := by omega
          have a4 : (0 : Int) ≤ (r : Int) := by omega
          have HD : d ≤ s.size - k := hdl
          clear hd hne RA hL hI hi3 hr hg0 htl hA hc hhi hlo
          go_wp2_with (first | (go_at_call 63; refine HA.out.mono ?_; rintro e w4 ⟨v4, rfl, hO4, o, hG4⟩; have HI4 := Lib.hid (iter_grown (ho3.alloc o) hG4 (iter_alloc HI3.out o)); have hB4 := (hb3.alloc hz3 o).grown hG4 (by simp; omega) (fun q hq => (ho3.lt q hq).1)))
          go_roundg g'
          case rel => exact ⟨k + d, by omega, by omega, HRest, ⟨B ++ E, by have := HX.out; simp; omega, HR, own_bytes (by simpa using hO4)⟩, HI4, hB4⟩
          case measure => omega
      · obtain rfl : k = s.size := by omega
        have hR := hr.out
        rw [← len_str s, List.drop_length, show escL [] = [] from rfl, List.nil_append] at hR
        have hn := Lib.run_next_end_at (P := Tryd.prog) wr (w1.heap.size + 1) s s.size 0 hI.out (by omega)
        have hw2 : w.heap.size ≤ (wr.alloc (.cells (bytesU [34]).toArray 5)).heap.size := by simp; omega
        have a1 : (B.length + 1) * 1 ≤ 140737488355328 := by omega
        have hres := Lib.hid (fun (v1 : Value) (w1 : World) (hO : w1.ownsRow w.heap.size 5 1 v1 (B.length + 1) (bytesU B ++ bytesU [34])) => own_text (T := 82) hO Tryd.underlying82 Tryd.underlying5 Tryd.underlying9 hR)
        clear hR hr hL hI
        go_wp2_with (first | ((with_reducible refine pl_lit_b1 34 Tryd.underlying82 el5 ?_ ?_ ?_); (· rfl); (· rfl)) | ((with_reducible refine pl_append (c := 1) w.heap.size Tryd.underlying82 el5 (hown.alloc _) (show (bytesU [34]).length = 1 * 1 from rfl) (new_bytes wr [34] 5) (one_bytes _) a1 (hbel.alloc hws _) hw2 ?_ ?_ ?_ ?_); (· rfl); (· rfl); (· rfl); intro v1 w1 hO1 hB1 _ _; obtain ⟨a1, c1, rfl, hstr⟩ := hres.out _ _ hO1))
        go_ret
        exact ⟨rfl, hB1⟩
end Go.Proofs.YtoddjofckbfkhaaDoor.Ut
