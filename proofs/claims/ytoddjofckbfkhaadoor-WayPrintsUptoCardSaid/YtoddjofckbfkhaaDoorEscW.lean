/- The walks of value.escaped, of the document's quoted and Quote. -/
import Derived.Test.YtoddjofckbfkhaaDoorKeyW
import Derived.Test.YtoddjofckbfkhaaDoorHexOfW
import Derived.Test.YtoddjofckbfkhaaDoorBy
namespace Go.Proofs.YtoddjofckbfkhaaDoor.Ut
open Go.RowKit Mem Ops Dg
theorem below_dn {B : Nat} {w W : World} (h : Below B w W) (n : Nat) : Below B w (W.drewN n) := ⟨h.os, h.tape, h.output, h.size, h.block⟩
/-- How a byte is written within double quotes. -/
def esc (c : UInt8) : List UInt8 :=
  if c = 34 then [92, 34] else if c = 92 then [92, 92] else if c = 10 then [92, 110] else if c = 13 then [92, 114] else if c = 9 then [92, 116]
  else if c.toNat < 32 ∨ c.toNat = 127 then 92 :: 117 :: 48 :: 48 :: hexL [c] else [c]
def escL (l : List UInt8) : List UInt8 := l.flatMap esc
theorem escL_snoc (l : List UInt8) (c : UInt8) : escL (l ++ [c]) = escL l ++ esc c := by simp [escL]
theorem escL_append (l m : List UInt8) : escL (l ++ m) = escL l ++ escL m := by simp [escL]
theorem esc_len (c : UInt8) : 1 ≤ (esc c).length ∧ (esc c).length ≤ 6 := by
  unfold esc
  repeat' split
  all_goals simp [length_hexL]
theorem escL_len : ∀ l : List UInt8, (escL l).length ≤ 6 * l.length
  | [] => by simp [escL]
  | c :: l => by
    have h1 := esc_len c
    have h2 := escL_len l
    simp only [escL, List.flatMap_cons, List.length_append, List.length_cons] at *
    omega
def quoteR (l : List UInt8) : List UInt8 := if Lib.validD l then 34 :: (escL l ++ [34]) else []
theorem u8_ext {c : UInt8} {n : Nat} (h : c.toNat = n) : c = UInt8.ofNat n := by
  rw [← h]; simp
theorem el5 : ElemIs Tryd.prog 5 (.int .u8 0) 1 1 := ⟨by kernel_rfl, by rfl, by decide, by decide⟩
theorem own_bytes {w : World} {base n : Nat} {v : Value} {B C : List UInt8} {m : Nat} (h : w.ownsRow base 5 1 v (n + m) (bytesU B ++ bytesU C)) (hn : n = B.length := by rfl) (hm : m = C.length := by rfl) : w.ownsRow base 5 1 v (B ++ C).length (bytesU (B ++ C)) := by
  subst hn hm
  rw [List.length_append, bytesU_append]; exact h
theorem own_below {w w1 : World} {base e size n : Nat} {v : Value} {xs : List Value} (h : w.ownsRow base e size v n xs) (hb : Below w.heap.size w w1) : w1.ownsRow base e size v n xs := by
  refine ⟨h.1, ?_⟩
  rcases h.2 with h2 | ⟨g, cap, cur, rfl, hg, hh, r⟩
  · exact .inl h2
  · exact .inr ⟨g, cap, cur, rfl, hg, (hb.block g (Array.getElem?_eq_some_iff.1 hh).1).trans hh, r⟩
theorem own_text {w : World} {base n m : Nat} {v : Value} {B C R : List UInt8} {T : TypeId} (h : w.ownsRow base 5 1 v (n + m) (bytesU B ++ bytesU C)) (ht : Tryd.prog.underlying T = some (.slice 5)) (h5 : Tryd.prog.underlying 5 = some (.int .u8)) (h9 : Tryd.prog.underlying 9 = some .string) (hR : B ++ C = R) :
    ∃ a c, v = .slice a (n + m) c ∧ (convert T 9 (.slice a (n + m) c)).run Tryd.prog w = .ok (.string ⟨R.toArray⟩) w := by
  obtain ⟨a, c, rfl, _, _, hrow, _⟩ := own_row h
  have hl := h.1
  rw [← bytesU_append, hR] at hrow hl
  exact ⟨a, c, rfl, run_str hrow T 5 9 ht h5 h9 (n + m) c (by simpa using hl.symm)⟩
set_option maxHeartbeats 8000000 in
theorem escaped_calls (c : UInt8) (w : World) : Calls Tryd.prog 62 #[.int .u8 (c.toNat : Int)] w (StrR (esc c) w) := by
  unfold StrR
  have hc := c.toNat_lt
  by_cases h0 : c.toNat < 32 ∨ c.toNat = 127 ∨ c.toNat = 34 ∨ c.toNat = 92
  · have k : c.toNat = 0 ∨ c.toNat = 1 ∨ c.toNat = 2 ∨ c.toNat = 3 ∨ c.toNat = 4 ∨ c.toNat = 5 ∨ c.toNat = 6 ∨ c.toNat = 7 ∨ c.toNat = 8 ∨ c.toNat = 9 ∨ c.toNat = 10 ∨ c.toNat = 11 ∨ c.toNat = 12 ∨ c.toNat = 13 ∨ c.toNat = 14 ∨ c.toNat = 15 ∨ c.toNat = 16 ∨ c.toNat = 17 ∨ c.toNat = 18 ∨ c.toNat = 19 ∨ c.toNat = 20 ∨ c.toNat = 21 ∨ c.toNat = 22 ∨ c.toNat = 23 ∨ c.toNat = 24 ∨ c.toNat = 25 ∨ c.toNat = 26 ∨ c.toNat = 27 ∨ c.toNat = 28 ∨ c.toNat = 29 ∨ c.toNat = 30 ∨ c.toNat = 31 ∨ c.toNat = 127 ∨ c.toNat = 34 ∨ c.toNat = 92 := by omega
    rcases k with k | k | k | k | k | k | k | k | k | k | k | k | k | k | k | k | k | k | k | k | k | k | k | k | k | k | k | k | k | k | k | k | k | k | k
    all_goals
      rw [k]
      obtain rfl := u8_ext k
      clear k h0 hc
      go_enter Tryd.func62, Tryd.ntmps62
      go_wp2
      try (go_quiet (fail))
      try go_wp2
      go_ret
      exact ⟨by rfl, by first | exact Below.refl _ _ | exact below_dn (Below.refl _ _) _ | exact (Below.refl _ _).drew⟩
  · simp only [not_or] at h0
    have e : esc c = [c] := by
      unfold esc
      rw [if_neg (by rintro rfl; simp at h0), if_neg (by rintro rfl; simp at h0), if_neg (by rintro rfl; simp at h0), if_neg (by rintro rfl; simp at h0), if_neg (by rintro rfl; simp at h0), if_neg (by omega)]
    rw [e]
    have hs := run_str (P := Tryd.prog) (new_bytes w [c] 5) 82 5 9 Tryd.underlying82 Tryd.underlying5 Tryd.underlying9 1 1 rfl
    have hB := (Below.refl w.heap.size w).alloc (Nat.le_refl _) (.cells (bytesU [c]).toArray 5)
    have f1 : ((c.toNat : Int) == 34) = false := beq_eq_false_iff_ne.mpr (by omega)
    have f2 : ((c.toNat : Int) == 92) = false := beq_eq_false_iff_ne.mpr (by omega)
    have f3 : ((c.toNat : Int) == 10) = false := beq_eq_false_iff_ne.mpr (by omega)
    have f4 : ((c.toNat : Int) == 13) = false := beq_eq_false_iff_ne.mpr (by omega)
    have f5 : ((c.toNat : Int) == 9) = false := beq_eq_false_iff_ne.mpr (by omega)
    have f6 : ((c.toNat : Int) == 127) = false := beq_eq_false_iff_ne.mpr (by omega)
    have f7 : ¬ (c.toNat : Int) < 32 := by omega
    clear h0 e
    go_enter Tryd.func62, Tryd.ntmps62
    go_wp2_with (first | ((with_reducible refine pl_lit_b1 c Tryd.underlying82 el5 ?_ ?_ ?_); (· rfl); (· rfl)))
    go_ret
    exact ⟨rfl, hB⟩

theorem escL_drop (l : List UInt8) (k : Nat) (hk : k < l.length) : escL (l.drop k) = esc (l.getD k 0) ++ escL (l.drop (k + 1)) := by
  unfold escL
  rw [List.drop_eq_getElem_cons hk, List.flatMap_cons, List.getD_eq_getElem?_getD, List.getElem?_eq_getElem hk]
  rfl
set_option maxRecDepth 100000 in
set_option maxHeartbeats 4000000 in
theorem quoted_calls (s : ByteArray) (w : World) (hs : s.size ≤ 1000000000000) :
    Calls Tryd.prog 66 #[.string s, .int .u8 34] w (StrR (34 :: (escL s.data.toList ++ [34])) w) := by
  unfold StrR
  obtain ⟨R, hR⟩ : ∃ R, 34 :: (escL s.data.toList ++ [34]) = R := ⟨_, rfl⟩
  rw [hR]
  have HR : Hid ([34] ++ (escL (s.data.toList.drop 0) ++ [34]) = R) := Lib.hid hR
  have hB0 := (Below.refl w.heap.size w).alloc (Nat.le_refl _) (.cells (bytesU [34]).toArray 5)
  have hO0 := own_new (w := w) (base := w.heap.size) [34] (e := 5) (Nat.le_refl _) (by decide)
  clear hR
  go_enter Tryd.func66, Tryd.ntmps66
  go_wp2_with (first | ((with_reducible refine pl_lit_b1 34 Tryd.underlying82 el5 ?_ ?_ ?_); (· rfl); (· rfl)))
  go_loopw [5, 6] (fun v i wr => ∃ k : Nat, k ≤ s.size ∧ i = .int .i64 k ∧ (∃ B : List UInt8, B.length ≤ 6 * k + 1 ∧ Hid (B ++ (escL (s.data.toList.drop k) ++ [34]) = R) ∧ wr.ownsRow w.heap.size 5 1 v B.length (bytesU B)) ∧ Below w.heap.size w wr) (fun _ i _ => s.size - (intOf i).toNat)
  case atStart => exact ⟨0, Nat.zero_le _, rfl, ⟨[34], by decide, HR, hO0⟩, hB0⟩
  case round =>
    clear HR hB0 hO0
    obtain ⟨k, hk, rfl, ⟨B, hBl, hr, hown⟩, hbel⟩ := hrel
    have hws := hbel.size
    by_cases hlt : k < s.size
    · have hR := hr.out
      rw [escL_drop _ k (by rw [len_str]; exact hlt), ← str_at s k hlt, List.append_assoc, ← List.append_assoc] at hR
      have p0 : (k : Int) < (s.size : Int) := by omega
      have p2 : (k : Int) ≤ 1000000000000 := by omega
      have p3 : decide (k < s.size) = true := by simpa using hlt
      have hw2 : w.heap.size ≤ (wr.alloc (.cells #[] 5)).heap.size := by simp; omega
      clear hr
      obtain ⟨c, hc⟩ : ∃ c, s[k]'hlt = c := ⟨_, rfl⟩
      rw [hc] at hR
      by_cases h34 : c = 34
      · subst h34
        rw [show esc 34 = [92, 34] from rfl] at hR
        have hw2 : w.heap.size ≤ (wr.alloc (.cells (bytesU [92, 34]).toArray 5)).heap.size := by simp; omega
        have a1 : (B.length + 2) * 1 ≤ 140737488355328 := by omega
        have HR := Lib.hid hR
        clear hR
        go_wp2_with (first | ((with_reducible refine pl_lit_b2 92 34 Tryd.underlying82 el5 ?_ ?_ ?_ ?_); (· rfl); (· rfl); (· rfl)) | ((with_reducible refine pl_append (c := 2) w.heap.size Tryd.underlying82 el5 (hown.alloc _) (show (bytesU [92, 34]).length = 2 * 1 from rfl) (new_bytes wr [92, 34] 5) (one_bytes _) a1 (hbel.alloc hws _) hw2 ?_ ?_ ?_ ?_); (· rfl); (· rfl); (· rfl); intro v1 w1 hO1 hB1 _ _))
        go_roundw
        case rel => exact ⟨k + 1, by omega, by go_num, ⟨B ++ [92, 34], by simp; omega, HR, own_bytes hO1⟩, hB1⟩
        case measure => simp [intOf]; omega
      by_cases h92 : c = 92
      · subst h92
        rw [show esc 92 = [92, 92] from rfl] at hR
        have hw2 : w.heap.size ≤ (wr.alloc (.cells (bytesU [92, 92]).toArray 5)).heap.size := by simp; omega
        have a1 : (B.length + 2) * 1 ≤ 140737488355328 := by omega
        have HR := Lib.hid hR
        clear hR
        go_wp2_with (first | ((with_reducible refine pl_lit_b2 92 92 Tryd.underlying82 el5 ?_ ?_ ?_ ?_); (· rfl); (· rfl); (· rfl)) | ((with_reducible refine pl_append (c := 2) w.heap.size Tryd.underlying82 el5 (hown.alloc _) (show (bytesU [92, 92]).length = 2 * 1 from rfl) (new_bytes wr [92, 92] 5) (one_bytes _) a1 (hbel.alloc hws _) hw2 ?_ ?_ ?_ ?_); (· rfl); (· rfl); (· rfl); intro v1 w1 hO1 hB1 _ _))
        go_roundw
        case rel => exact ⟨k + 1, by omega, by go_num, ⟨B ++ [92, 92], by simp; omega, HR, own_bytes hO1⟩, hB1⟩
        case measure => simp [intOf]; omega
      by_cases h10 : c = 10
      · subst h10
        rw [show esc 10 = [92, 110] from rfl] at hR
        have hw2 : w.heap.size ≤ (wr.alloc (.cells (bytesU [92, 110]).toArray 5)).heap.size := by simp; omega
        have a1 : (B.length + 2) * 1 ≤ 140737488355328 := by omega
        have HR := Lib.hid hR
        clear hR
        go_wp2_with (first | ((with_reducible refine pl_lit_b2 92 110 Tryd.underlying82 el5 ?_ ?_ ?_ ?_); (· rfl); (· rfl); (· rfl)) | ((with_reducible refine pl_append (c := 2) w.heap.size Tryd.underlying82 el5 (hown.alloc _) (show (bytesU [92, 110]).length = 2 * 1 from rfl) (new_bytes wr [92, 110] 5) (one_bytes _) a1 (hbel.alloc hws _) hw2 ?_ ?_ ?_ ?_); (· rfl); (· rfl); (· rfl); intro v1 w1 hO1 hB1 _ _))
        go_roundw
        case rel => exact ⟨k + 1, by omega, by go_num, ⟨B ++ [92, 110], by simp; omega, HR, own_bytes hO1⟩, hB1⟩
        case measure => simp [intOf]; omega
      by_cases h13 : c = 13
      · subst h13
        rw [show esc 13 = [92, 114] from rfl] at hR
        have hw2 : w.heap.size ≤ (wr.alloc (.cells (bytesU [92, 114]).toArray 5)).heap.size := by simp; omega
        have a1 : (B.length + 2) * 1 ≤ 140737488355328 := by omega
        have HR := Lib.hid hR
        clear hR
        go_wp2_with (first | ((with_reducible refine pl_lit_b2 92 114 Tryd.underlying82 el5 ?_ ?_ ?_ ?_); (· rfl); (· rfl); (· rfl)) | ((with_reducible refine pl_append (c := 2) w.heap.size Tryd.underlying82 el5 (hown.alloc _) (show (bytesU [92, 114]).length = 2 * 1 from rfl) (new_bytes wr [92, 114] 5) (one_bytes _) a1 (hbel.alloc hws _) hw2 ?_ ?_ ?_ ?_); (· rfl); (· rfl); (· rfl); intro v1 w1 hO1 hB1 _ _))
        go_roundw
        case rel => exact ⟨k + 1, by omega, by go_num, ⟨B ++ [92, 114], by simp; omega, HR, own_bytes hO1⟩, hB1⟩
        case measure => simp [intOf]; omega
      by_cases h9 : c = 9
      · subst h9
        rw [show esc 9 = [92, 116] from rfl] at hR
        have hw2 : w.heap.size ≤ (wr.alloc (.cells (bytesU [92, 116]).toArray 5)).heap.size := by simp; omega
        have a1 : (B.length + 2) * 1 ≤ 140737488355328 := by omega
        have HR := Lib.hid hR
        clear hR
        go_wp2_with (first | ((with_reducible refine pl_lit_b2 92 116 Tryd.underlying82 el5 ?_ ?_ ?_ ?_); (· rfl); (· rfl); (· rfl)) | ((with_reducible refine pl_append (c := 2) w.heap.size Tryd.underlying82 el5 (hown.alloc _) (show (bytesU [92, 116]).length = 2 * 1 from rfl) (new_bytes wr [92, 116] 5) (one_bytes _) a1 (hbel.alloc hws _) hw2 ?_ ?_ ?_ ?_); (· rfl); (· rfl); (· rfl); intro v1 w1 hO1 hB1 _ _))
        go_roundw
        case rel => exact ⟨k + 1, by omega, by go_num, ⟨B ++ [92, 116], by simp; omega, HR, own_bytes hO1⟩, hB1⟩
        case measure => simp [intOf]; omega
      have n34 : ¬ c.toNat = 34 := fun h => h34 (u8_ext h)
      have n92 : ¬ c.toNat = 92 := fun h => h92 (u8_ext h)
      have n10 : ¬ c.toNat = 10 := fun h => h10 (u8_ext h)
      have n13 : ¬ c.toNat = 13 := fun h => h13 (u8_ext h)
      have n9 : ¬ c.toNat = 9 := fun h => h9 (u8_ext h)
      have f1 : ((c.toNat : Int) == 34) = false := beq_eq_false_iff_ne.mpr (by omega)
      have f2 : ((c.toNat : Int) == 92) = false := beq_eq_false_iff_ne.mpr (by omega)
      have f3 : ((c.toNat : Int) == 10) = false := beq_eq_false_iff_ne.mpr (by omega)
      have f4 : ((c.toNat : Int) == 13) = false := beq_eq_false_iff_ne.mpr (by omega)
      have f5 : ((c.toNat : Int) == 9) = false := beq_eq_false_iff_ne.mpr (by omega)
      by_cases hctl : c.toNat < 32 ∨ c.toNat = 127
      · have e : esc c = 92 :: 117 :: 48 :: 48 :: hexL [c] := by
          unfold esc
          rw [if_neg h34, if_neg h92, if_neg h10, if_neg h13, if_neg h9, if_pos hctl]
        have el : (92 :: 117 :: 48 :: 48 :: hexL [c]).length = 6 := by simp [length_hexL]
        have hx := hexOf_calls (some ⟨wr.heap.size, 0, none⟩) [c] 1 1 (wr.alloc (.cells (bytesU [c]).toArray 5)) rfl (by simp) (new_bytes wr [c] 5)
        have HX := Lib.hid hx
        have zs : (⟨#[92, 117, 48, 48]⟩ : ByteArray).size + (⟨(hexL [c]).toArray⟩ : ByteArray).size ≤ 9223372036854775807 := by
          show 4 + (⟨(hexL [c]).toArray⟩ : ByteArray).size ≤ _
          rw [size_mk, length_hexL]; simp
        have hadd := fun (w : World) => run_string_add_sum (P := Tryd.prog) w _ _ zs
        have es : (⟨#[92, 117, 48, 48]⟩ : ByteArray) ++ ⟨(hexL [c]).toArray⟩ = ⟨(92 :: 117 :: 48 :: 48 :: hexL [c]).toArray⟩ := by
          apply ByteArray.ext
          apply Array.ext'
          simp [ByteArray.data_append]
        rw [es] at hadd
        generalize hexL [c] = X at *
        generalize hY : (92 :: 117 :: 48 :: 48 :: X) = Y at *
        have ez : (⟨Y.toArray⟩ : ByteArray).size = 6 := by rw [size_mk]; exact el
        have hB1 := hbel.alloc hws (.cells (bytesU [c]).toArray 5)
        have hw1 : wr.heap.size ≤ (wr.alloc (.cells (bytesU [c]).toArray 5)).heap.size := by simp
        have a1 : B.length + (⟨Y.toArray⟩ : ByteArray).size ≤ 140737488355328 := by omega
        rw [e] at hR
        have HR := Lib.hid hR
        clear hR e hx hY ez zs
        rcases hctl with hctl | hctl
        · have g1 : (c.toNat : Int) < 32 := by omega
          clear hctl
          go_wp2_with (first | ((with_reducible refine pl_lit_b1 c Tryd.underlying82 el5 ?_ ?_ ?_); (· rfl); (· rfl)) | (go_at_call 84; refine HX.out.mono ?_; rintro e w1 ⟨rfl, hb1⟩; have hB2 := hB1.trans (hb1.mono (Nat.le_trans hws hw1)); have hO2 := own_below (hown.alloc (.cells (bytesU [c]).toArray 5)) hb1; have hz2 := hB2.size) | ((with_reducible refine pl_append_str w.heap.size ⟨Y.toArray⟩ Tryd.underlying82 Tryd.underlying9 el5 hO2 a1 hB2 hz2 ?_ ?_ ?_ ?_); (· rfl); (· rfl); (· rfl); intro v3 w3 hO3 hB3 _))
          go_roundw
          case rel => exact ⟨k + 1, by omega, by go_num, ⟨B ++ Y, by simp; omega, HR, own_bytes hO3⟩, hB3⟩
          case measure => simp [intOf]; omega
        · have g1 : ¬ (c.toNat : Int) < 32 := by omega
          have g2 : ((c.toNat : Int) == 127) = true := beq_iff_eq.mpr (by omega)
          clear hctl
          go_wp2_with (first | ((with_reducible refine pl_lit_b1 c Tryd.underlying82 el5 ?_ ?_ ?_); (· rfl); (· rfl)) | (go_at_call 84; refine HX.out.mono ?_; rintro e w1 ⟨rfl, hb1⟩; have hB2 := hB1.trans (hb1.mono (Nat.le_trans hws hw1)); have hO2 := own_below (hown.alloc (.cells (bytesU [c]).toArray 5)) hb1; have hz2 := hB2.size) | ((with_reducible refine pl_append_str w.heap.size ⟨Y.toArray⟩ Tryd.underlying82 Tryd.underlying9 el5 hO2 a1 hB2 hz2 ?_ ?_ ?_ ?_); (· rfl); (· rfl); (· rfl); intro v3 w3 hO3 hB3 _))
          go_roundw
          case rel => exact ⟨k + 1, by omega, by go_num, ⟨B ++ Y, by simp; omega, HR, own_bytes hO3⟩, hB3⟩
          case measure => simp [intOf]; omega
      · have e : esc c = [c] := by
          unfold esc
          rw [if_neg h34, if_neg h92, if_neg h10, if_neg h13, if_neg h9, if_neg hctl]
        simp only [not_or] at hctl
        have g1 : ¬ (c.toNat : Int) < 32 := by omega
        have g2 : ((c.toNat : Int) == 127) = false := beq_eq_false_iff_ne.mpr (by omega)
        rw [e] at hR
        clear e
        have hw2 : w.heap.size ≤ (wr.alloc (.cells (bytesU [c]).toArray 5)).heap.size := by simp; omega
        have a1 : (B.length + 1) * 1 ≤ 140737488355328 := by omega
        have HR := Lib.hid hR
        clear hR
        go_wp2_with (first | ((with_reducible refine pl_lit_b1 c Tryd.underlying82 el5 ?_ ?_ ?_); (· rfl); (· rfl)) | ((with_reducible refine pl_append (c := 1) w.heap.size Tryd.underlying82 el5 (hown.alloc _) (show (bytesU [c]).length = 1 * 1 from rfl) (new_bytes wr [c] 5) (one_bytes _) a1 (hbel.alloc hws _) hw2 ?_ ?_ ?_ ?_); (· rfl); (· rfl); (· rfl); intro v1 w1 hO1 hB1 _ _))
        go_roundw
        case rel => exact ⟨k + 1, by omega, by go_num, ⟨B ++ [c], by simp; omega, HR, own_bytes hO1⟩, hB1⟩
        case measure => simp [intOf]; omega
    · obtain rfl : k = s.size := by omega
      have hR := hr.out
      rw [← len_str s, List.drop_length, show escL [] = [] from rfl, List.nil_append] at hR
      have hw2 : w.heap.size ≤ (wr.alloc (.cells (bytesU [34]).toArray 5)).heap.size := by simp; omega
      have a1 : (B.length + 1) * 1 ≤ 140737488355328 := by omega
      have HR := Lib.hid hR
      have hres := Lib.hid (fun (v1 : Value) (w1 : World) (hO : w1.ownsRow w.heap.size 5 1 v1 (B.length + 1) (bytesU B ++ bytesU [34])) => own_text (T := 82) hO Tryd.underlying82 Tryd.underlying5 Tryd.underlying9 hR)
      clear hR hr
      go_wp2_with (first | ((with_reducible refine pl_lit_b1 34 Tryd.underlying82 el5 ?_ ?_ ?_); (· rfl); (· rfl)) | ((with_reducible refine pl_append (c := 1) w.heap.size Tryd.underlying82 el5 (hown.alloc _) (show (bytesU [34]).length = 1 * 1 from rfl) (new_bytes wr [34] 5) (one_bytes _) a1 (hbel.alloc hws _) hw2 ?_ ?_ ?_ ?_); (· rfl); (· rfl); (· rfl); intro v1 w1 hO1 hB1 _ _; obtain ⟨a1, c1, rfl, hstr⟩ := hres.out _ _ hO1))
      go_ret
      exact ⟨rfl, hB1⟩
end Go.Proofs.YtoddjofckbfkhaaDoor.Ut
