/- The walks of Name and KindOf. -/
import Derived.Test.YtodjcgkbcbaadaaDoorProg
import Derived.Test.YtodjcgkbcbaadaaDoorRow
import Derived.Lib.Hide
import Derived.WalkKit
set_option linter.unusedVariables false
namespace Go.Proofs.YtodjcgkbcbaadaaDoor.Va
open Go.RowKit Mem
def names : List (List UInt8) := [[110, 117, 108, 108], [98, 111, 111, 108], [105, 110, 116], [102, 108, 111, 97, 116], [116, 101, 120, 116], [98, 121, 116, 101, 115], [116, 105, 109, 101], [99, 111, 117, 110, 116, 101, 114], [109, 97, 112], [108, 105, 115, 116], [115, 116, 114, 105, 110, 103], [111, 117, 116, 108, 105, 110, 101]]
def nmB (i : Nat) : ByteArray := ⟨(names.getD i []).toArray⟩
def NamesAt (g : Nat) (w : World) : Prop := ∀ i, i < 12 → w.cell? ⟨g, i, none⟩ = some (.string (nmB i))
theorem NamesAt.below {g : Nat} {w w' : World} (h : NamesAt g w) (k : Below w.heap.size w w') : NamesAt g w' := fun i hi => (k.cell (p := ⟨g, i, none⟩) (lt_of_cell (h i hi))).trans (h i hi)
def nameOf (k : Int) : ByteArray := if 12 ≤ k then ⟨#[]⟩ else nmB k.toNat
/-- The first kind from k on of that name. -/
def findK (s : ByteArray) : Nat → Nat → Int × Int
  | _, 0 => (0, 4)
  | k, n + 1 => if (nmB k).toList == s.toList then ((k : Int), 0) else findK s (k + 1) n
def kindL (s : ByteArray) : Int × Int := findK s 0 12
theorem findK_step (s : ByteArray) (k n : Nat) : findK s k (n + 1) = if (nmB k).toList == s.toList then ((k : Int), 0) else findK s (k + 1) n := rfl
theorem findK_end (s : ByteArray) (k : Nat) : findK s k 0 = (0, 4) := rfl
set_option maxRecDepth 100000 in
set_option maxHeartbeats 2000000 in
theorem name_calls (k : Int) (w : World) (h0 : 0 ≤ k) (h1 : k ≤ 255) (hN : NamesAt 0 w) : Calls Tryd.prog 17 #[.int .u8 k] w fun e w' => e = .returned (.string (nameOf k)) ∧ w = w' := by
  by_cases h : 12 ≤ k
  · rw [show nameOf k = ⟨#[]⟩ from if_pos h]
    have h2 : 11 < k := by omega
    clear hN
    go_enter Tryd.func17, Tryd.ntmps17
    go_wp2
    go_ret
    exact ⟨rfl, rfl⟩
  · rw [show nameOf k = nmB k.toNat from if_neg h]
    have kc : k = 0 ∨ k = 1 ∨ k = 2 ∨ k = 3 ∨ k = 4 ∨ k = 5 ∨ k = 6 ∨ k = 7 ∨ k = 8 ∨ k = 9 ∨ k = 10 ∨ k = 11 := by omega
    rcases kc with rfl | rfl | rfl | rfl | rfl | rfl | rfl | rfl | rfl | rfl | rfl | rfl
    · have hc := hN 0 (by omega)
      show Calls Tryd.prog 17 #[.int .u8 0] w fun e w' => e = .returned (.string (nmB 0)) ∧ w = w'
      generalize nmB 0 = B at *
      clear hN h h0 h1
      go_enter Tryd.func17, Tryd.ntmps17
      go_wp2
      go_ret
      exact ⟨rfl, rfl⟩
    · have hc := hN 1 (by omega)
      show Calls Tryd.prog 17 #[.int .u8 1] w fun e w' => e = .returned (.string (nmB 1)) ∧ w = w'
      generalize nmB 1 = B at *
      clear hN h h0 h1
      go_enter Tryd.func17, Tryd.ntmps17
      go_wp2
      go_ret
      exact ⟨rfl, rfl⟩
    · have hc := hN 2 (by omega)
      show Calls Tryd.prog 17 #[.int .u8 2] w fun e w' => e = .returned (.string (nmB 2)) ∧ w = w'
      generalize nmB 2 = B at *
      clear hN h h0 h1
      go_enter Tryd.func17, Tryd.ntmps17
      go_wp2
      go_ret
      exact ⟨rfl, rfl⟩
    · have hc := hN 3 (by omega)
      show Calls Tryd.prog 17 #[.int .u8 3] w fun e w' => e = .returned (.string (nmB 3)) ∧ w = w'
      generalize nmB 3 = B at *
      clear hN h h0 h1
      go_enter Tryd.func17, Tryd.ntmps17
      go_wp2
      go_ret
      exact ⟨rfl, rfl⟩
    · have hc := hN 4 (by omega)
      show Calls Tryd.prog 17 #[.int .u8 4] w fun e w' => e = .returned (.string (nmB 4)) ∧ w = w'
      generalize nmB 4 = B at *
      clear hN h h0 h1
      go_enter Tryd.func17, Tryd.ntmps17
      go_wp2
      go_ret
      exact ⟨rfl, rfl⟩
    · have hc := hN 5 (by omega)
      show Calls Tryd.prog 17 #[.int .u8 5] w fun e w' => e = .returned (.string (nmB 5)) ∧ w = w'
      generalize nmB 5 = B at *
      clear hN h h0 h1
      go_enter Tryd.func17, Tryd.ntmps17
      go_wp2
      go_ret
      exact ⟨rfl, rfl⟩
    · have hc := hN 6 (by omega)
      show Calls Tryd.prog 17 #[.int .u8 6] w fun e w' => e = .returned (.string (nmB 6)) ∧ w = w'
      generalize nmB 6 = B at *
      clear hN h h0 h1
      go_enter Tryd.func17, Tryd.ntmps17
      go_wp2
      go_ret
      exact ⟨rfl, rfl⟩
    · have hc := hN 7 (by omega)
      show Calls Tryd.prog 17 #[.int .u8 7] w fun e w' => e = .returned (.string (nmB 7)) ∧ w = w'
      generalize nmB 7 = B at *
      clear hN h h0 h1
      go_enter Tryd.func17, Tryd.ntmps17
      go_wp2
      go_ret
      exact ⟨rfl, rfl⟩
    · have hc := hN 8 (by omega)
      show Calls Tryd.prog 17 #[.int .u8 8] w fun e w' => e = .returned (.string (nmB 8)) ∧ w = w'
      generalize nmB 8 = B at *
      clear hN h h0 h1
      go_enter Tryd.func17, Tryd.ntmps17
      go_wp2
      go_ret
      exact ⟨rfl, rfl⟩
    · have hc := hN 9 (by omega)
      show Calls Tryd.prog 17 #[.int .u8 9] w fun e w' => e = .returned (.string (nmB 9)) ∧ w = w'
      generalize nmB 9 = B at *
      clear hN h h0 h1
      go_enter Tryd.func17, Tryd.ntmps17
      go_wp2
      go_ret
      exact ⟨rfl, rfl⟩
    · have hc := hN 10 (by omega)
      show Calls Tryd.prog 17 #[.int .u8 10] w fun e w' => e = .returned (.string (nmB 10)) ∧ w = w'
      generalize nmB 10 = B at *
      clear hN h h0 h1
      go_enter Tryd.func17, Tryd.ntmps17
      go_wp2
      go_ret
      exact ⟨rfl, rfl⟩
    · have hc := hN 11 (by omega)
      show Calls Tryd.prog 17 #[.int .u8 11] w fun e w' => e = .returned (.string (nmB 11)) ∧ w = w'
      generalize nmB 11 = B at *
      clear hN h h0 h1
      go_enter Tryd.func17, Tryd.ntmps17
      go_wp2
      go_ret
      exact ⟨rfl, rfl⟩
set_option maxRecDepth 100000 in
set_option maxHeartbeats 2000000 in
theorem nameRef_calls (k : Int) (w : World) (h0 : 0 ≤ k) (h1 : k ≤ 255) (hN : NamesAt 1 w) : Calls Tryd.prog 23 #[.int .u8 k] w fun e w' => e = .returned (.string (nameOf k)) ∧ w = w' := by
  by_cases h : 12 ≤ k
  · rw [show nameOf k = ⟨#[]⟩ from if_pos h]
    have h2 : 11 < k := by omega
    clear hN
    go_enter Tryd.func23, Tryd.ntmps23
    go_wp2
    go_ret
    exact ⟨rfl, rfl⟩
  · rw [show nameOf k = nmB k.toNat from if_neg h]
    have kc : k = 0 ∨ k = 1 ∨ k = 2 ∨ k = 3 ∨ k = 4 ∨ k = 5 ∨ k = 6 ∨ k = 7 ∨ k = 8 ∨ k = 9 ∨ k = 10 ∨ k = 11 := by omega
    rcases kc with rfl | rfl | rfl | rfl | rfl | rfl | rfl | rfl | rfl | rfl | rfl | rfl
    · have hc := hN 0 (by omega)
      show Calls Tryd.prog 23 #[.int .u8 0] w fun e w' => e = .returned (.string (nmB 0)) ∧ w = w'
      generalize nmB 0 = B at *
      clear hN h h0 h1
      go_enter Tryd.func23, Tryd.ntmps23
      go_wp2
      go_ret
      exact ⟨rfl, rfl⟩
    · have hc := hN 1 (by omega)
      show Calls Tryd.prog 23 #[.int .u8 1] w fun e w' => e = .returned (.string (nmB 1)) ∧ w = w'
      generalize nmB 1 = B at *
      clear hN h h0 h1
      go_enter Tryd.func23, Tryd.ntmps23
      go_wp2
      go_ret
      exact ⟨rfl, rfl⟩
    · have hc := hN 2 (by omega)
      show Calls Tryd.prog 23 #[.int .u8 2] w fun e w' => e = .returned (.string (nmB 2)) ∧ w = w'
      generalize nmB 2 = B at *
      clear hN h h0 h1
      go_enter Tryd.func23, Tryd.ntmps23
      go_wp2
      go_ret
      exact ⟨rfl, rfl⟩
    · have hc := hN 3 (by omega)
      show Calls Tryd.prog 23 #[.int .u8 3] w fun e w' => e = .returned (.string (nmB 3)) ∧ w = w'
      generalize nmB 3 = B at *
      clear hN h h0 h1
      go_enter Tryd.func23, Tryd.ntmps23
      go_wp2
      go_ret
      exact ⟨rfl, rfl⟩
    · have hc := hN 4 (by omega)
      show Calls Tryd.prog 23 #[.int .u8 4] w fun e w' => e = .returned (.string (nmB 4)) ∧ w = w'
      generalize nmB 4 = B at *
      clear hN h h0 h1
      go_enter Tryd.func23, Tryd.ntmps23
      go_wp2
      go_ret
      exact ⟨rfl, rfl⟩
    · have hc := hN 5 (by omega)
      show Calls Tryd.prog 23 #[.int .u8 5] w fun e w' => e = .returned (.string (nmB 5)) ∧ w = w'
      generalize nmB 5 = B at *
      clear hN h h0 h1
      go_enter Tryd.func23, Tryd.ntmps23
      go_wp2
      go_ret
      exact ⟨rfl, rfl⟩
    · have hc := hN 6 (by omega)
      show Calls Tryd.prog 23 #[.int .u8 6] w fun e w' => e = .returned (.string (nmB 6)) ∧ w = w'
      generalize nmB 6 = B at *
      clear hN h h0 h1
      go_enter Tryd.func23, Tryd.ntmps23
      go_wp2
      go_ret
      exact ⟨rfl, rfl⟩
    · have hc := hN 7 (by omega)
      show Calls Tryd.prog 23 #[.int .u8 7] w fun e w' => e = .returned (.string (nmB 7)) ∧ w = w'
      generalize nmB 7 = B at *
      clear hN h h0 h1
      go_enter Tryd.func23, Tryd.ntmps23
      go_wp2
      go_ret
      exact ⟨rfl, rfl⟩
    · have hc := hN 8 (by omega)
      show Calls Tryd.prog 23 #[.int .u8 8] w fun e w' => e = .returned (.string (nmB 8)) ∧ w = w'
      generalize nmB 8 = B at *
      clear hN h h0 h1
      go_enter Tryd.func23, Tryd.ntmps23
      go_wp2
      go_ret
      exact ⟨rfl, rfl⟩
    · have hc := hN 9 (by omega)
      show Calls Tryd.prog 23 #[.int .u8 9] w fun e w' => e = .returned (.string (nmB 9)) ∧ w = w'
      generalize nmB 9 = B at *
      clear hN h h0 h1
      go_enter Tryd.func23, Tryd.ntmps23
      go_wp2
      go_ret
      exact ⟨rfl, rfl⟩
    · have hc := hN 10 (by omega)
      show Calls Tryd.prog 23 #[.int .u8 10] w fun e w' => e = .returned (.string (nmB 10)) ∧ w = w'
      generalize nmB 10 = B at *
      clear hN h h0 h1
      go_enter Tryd.func23, Tryd.ntmps23
      go_wp2
      go_ret
      exact ⟨rfl, rfl⟩
    · have hc := hN 11 (by omega)
      show Calls Tryd.prog 23 #[.int .u8 11] w fun e w' => e = .returned (.string (nmB 11)) ∧ w = w'
      generalize nmB 11 = B at *
      clear hN h h0 h1
      go_enter Tryd.func23, Tryd.ntmps23
      go_wp2
      go_ret
      exact ⟨rfl, rfl⟩
set_option maxRecDepth 100000 in
set_option maxHeartbeats 4000000 in
theorem kindOf_calls (s : ByteArray) (w : World) (hN : NamesAt 0 w) : Calls Tryd.prog 18 #[.string s] w fun e w' => e = .returned (.tuple #[.int .u8 (kindL s).1, .int .i64 (kindL s).2]) ∧ w = w' := by
  unfold kindL
  obtain ⟨R, hR⟩ : ∃ R, findK s 0 12 = R := ⟨_, rfl⟩
  rw [hR]
  obtain ⟨r, t⟩ := R
  have HR : Hid (findK s 0 (12 - 0) = (r, t)) := Lib.hid hR
  clear hR
  go_enter Tryd.func18, Tryd.ntmps18
  go_wp2
  go_loop [5] (fun i => ∃ k : Nat, k ≤ 12 ∧ i = .int .i64 k ∧ Hid (findK s k (12 - k) = (r, t))) (fun i => 12 - (intOf i).toNat)
  case atStart => exact ⟨0, by omega, rfl, HR⟩
  case round =>
    clear HR
    obtain ⟨k, hk, rfl, hr⟩ := hrel
    have kc : k = 0 ∨ k = 1 ∨ k = 2 ∨ k = 3 ∨ k = 4 ∨ k = 5 ∨ k = 6 ∨ k = 7 ∨ k = 8 ∨ k = 9 ∨ k = 10 ∨ k = 11 ∨ k = 12 := by omega
    rcases kc with rfl | rfl | rfl | rfl | rfl | rfl | rfl | rfl | rfl | rfl | rfl | rfl | rfl
    · have hR := hr.out
      have hc := hN 0 (by omega)
      rw [show 12 - 0 = 11 + 1 from rfl, findK_step] at hR
      clear hr
      generalize nmB 0 = B at *
      cases ht : (B.toList == s.toList)
      · rw [ht, if_neg (by decide)] at hR
        have HR : Hid (findK s 1 (12 - 1) = (r, t)) := Lib.hid hR
        clear hR hN
        go_wp2
        go_round
        case rel => exact ⟨1, by omega, by go_num, HR⟩
        case measure => simp [intOf]
      · rw [ht, if_pos rfl] at hR
        obtain ⟨rfl, rfl⟩ := Prod.mk.inj hR
        clear hR hN
        go_wp2
        go_ret2
        exact ⟨rfl, rfl⟩
    · have hR := hr.out
      have hc := hN 1 (by omega)
      rw [show 12 - 1 = 10 + 1 from rfl, findK_step] at hR
      clear hr
      generalize nmB 1 = B at *
      cases ht : (B.toList == s.toList)
      · rw [ht, if_neg (by decide)] at hR
        have HR : Hid (findK s 2 (12 - 2) = (r, t)) := Lib.hid hR
        clear hR hN
        go_wp2
        go_round
        case rel => exact ⟨2, by omega, by go_num, HR⟩
        case measure => simp [intOf]
      · rw [ht, if_pos rfl] at hR
        obtain ⟨rfl, rfl⟩ := Prod.mk.inj hR
        clear hR hN
        go_wp2
        go_ret2
        exact ⟨rfl, rfl⟩
    · have hR := hr.out
      have hc := hN 2 (by omega)
      rw [show 12 - 2 = 9 + 1 from rfl, findK_step] at hR
      clear hr
      generalize nmB 2 = B at *
      cases ht : (B.toList == s.toList)
      · rw [ht, if_neg (by decide)] at hR
        have HR : Hid (findK s 3 (12 - 3) = (r, t)) := Lib.hid hR
        clear hR hN
        go_wp2
        go_round
        case rel => exact ⟨3, by omega, by go_num, HR⟩
        case measure => simp [intOf]
      · rw [ht, if_pos rfl] at hR
        obtain ⟨rfl, rfl⟩ := Prod.mk.inj hR
        clear hR hN
        go_wp2
        go_ret2
        exact ⟨rfl, rfl⟩
    · have hR := hr.out
      have hc := hN 3 (by omega)
      rw [show 12 - 3 = 8 + 1 from rfl, findK_step] at hR
      clear hr
      generalize nmB 3 = B at *
      cases ht : (B.toList == s.toList)
      · rw [ht, if_neg (by decide)] at hR
        have HR : Hid (findK s 4 (12 - 4) = (r, t)) := Lib.hid hR
        clear hR hN
        go_wp2
        go_round
        case rel => exact ⟨4, by omega, by go_num, HR⟩
        case measure => simp [intOf]
      · rw [ht, if_pos rfl] at hR
        obtain ⟨rfl, rfl⟩ := Prod.mk.inj hR
        clear hR hN
        go_wp2
        go_ret2
        exact ⟨rfl, rfl⟩
    · have hR := hr.out
      have hc := hN 4 (by omega)
      rw [show 12 - 4 = 7 + 1 from rfl, findK_step] at hR
      clear hr
      generalize nmB 4 = B at *
      cases ht : (B.toList == s.toList)
      · rw [ht, if_neg (by decide)] at hR
        have HR : Hid (findK s 5 (12 - 5) = (r, t)) := Lib.hid hR
        clear hR hN
        go_wp2
        go_round
        case rel => exact ⟨5, by omega, by go_num, HR⟩
        case measure => simp [intOf]
      · rw [ht, if_pos rfl] at hR
        obtain ⟨rfl, rfl⟩ := Prod.mk.inj hR
        clear hR hN
        go_wp2
        go_ret2
        exact ⟨rfl, rfl⟩
    · have hR := hr.out
      have hc := hN 5 (by omega)
      rw [show 12 - 5 = 6 + 1 from rfl, findK_step] at hR
      clear hr
      generalize nmB 5 = B at *
      cases ht : (B.toList == s.toList)
      · rw [ht, if_neg (by decide)] at hR
        have HR : Hid (findK s 6 (12 - 6) = (r, t)) := Lib.hid hR
        clear hR hN
        go_wp2
        go_round
        case rel => exact ⟨6, by omega, by go_num, HR⟩
        case measure => simp [intOf]
      · rw [ht, if_pos rfl] at hR
        obtain ⟨rfl, rfl⟩ := Prod.mk.inj hR
        clear hR hN
        go_wp2
        go_ret2
        exact ⟨rfl, rfl⟩
    · have hR := hr.out
      have hc := hN 6 (by omega)
      rw [show 12 - 6 = 5 + 1 from rfl, findK_step] at hR
      clear hr
      generalize nmB 6 = B at *
      cases ht : (B.toList == s.toList)
      · rw [ht, if_neg (by decide)] at hR
        have HR : Hid (findK s 7 (12 - 7) = (r, t)) := Lib.hid hR
        clear hR hN
        go_wp2
        go_round
        case rel => exact ⟨7, by omega, by go_num, HR⟩
        case measure => simp [intOf]
      · rw [ht, if_pos rfl] at hR
        obtain ⟨rfl, rfl⟩ := Prod.mk.inj hR
        clear hR hN
        go_wp2
        go_ret2
        exact ⟨rfl, rfl⟩
    · have hR := hr.out
      have hc := hN 7 (by omega)
      rw [show 12 - 7 = 4 + 1 from rfl, findK_step] at hR
      clear hr
      generalize nmB 7 = B at *
      cases ht : (B.toList == s.toList)
      · rw [ht, if_neg (by decide)] at hR
        have HR : Hid (findK s 8 (12 - 8) = (r, t)) := Lib.hid hR
        clear hR hN
        go_wp2
        go_round
        case rel => exact ⟨8, by omega, by go_num, HR⟩
        case measure => simp [intOf]
      · rw [ht, if_pos rfl] at hR
        obtain ⟨rfl, rfl⟩ := Prod.mk.inj hR
        clear hR hN
        go_wp2
        go_ret2
        exact ⟨rfl, rfl⟩
    · have hR := hr.out
      have hc := hN 8 (by omega)
      rw [show 12 - 8 = 3 + 1 from rfl, findK_step] at hR
      clear hr
      generalize nmB 8 = B at *
      cases ht : (B.toList == s.toList)
      · rw [ht, if_neg (by decide)] at hR
        have HR : Hid (findK s 9 (12 - 9) = (r, t)) := Lib.hid hR
        clear hR hN
        go_wp2
        go_round
        case rel => exact ⟨9, by omega, by go_num, HR⟩
        case measure => simp [intOf]
      · rw [ht, if_pos rfl] at hR
        obtain ⟨rfl, rfl⟩ := Prod.mk.inj hR
        clear hR hN
        go_wp2
        go_ret2
        exact ⟨rfl, rfl⟩
    · have hR := hr.out
      have hc := hN 9 (by omega)
      rw [show 12 - 9 = 2 + 1 from rfl, findK_step] at hR
      clear hr
      generalize nmB 9 = B at *
      cases ht : (B.toList == s.toList)
      · rw [ht, if_neg (by decide)] at hR
        have HR : Hid (findK s 10 (12 - 10) = (r, t)) := Lib.hid hR
        clear hR hN
        go_wp2
        go_round
        case rel => exact ⟨10, by omega, by go_num, HR⟩
        case measure => simp [intOf]
      · rw [ht, if_pos rfl] at hR
        obtain ⟨rfl, rfl⟩ := Prod.mk.inj hR
        clear hR hN
        go_wp2
        go_ret2
        exact ⟨rfl, rfl⟩
    · have hR := hr.out
      have hc := hN 10 (by omega)
      rw [show 12 - 10 = 1 + 1 from rfl, findK_step] at hR
      clear hr
      generalize nmB 10 = B at *
      cases ht : (B.toList == s.toList)
      · rw [ht, if_neg (by decide)] at hR
        have HR : Hid (findK s 11 (12 - 11) = (r, t)) := Lib.hid hR
        clear hR hN
        go_wp2
        go_round
        case rel => exact ⟨11, by omega, by go_num, HR⟩
        case measure => simp [intOf]
      · rw [ht, if_pos rfl] at hR
        obtain ⟨rfl, rfl⟩ := Prod.mk.inj hR
        clear hR hN
        go_wp2
        go_ret2
        exact ⟨rfl, rfl⟩
    · have hR := hr.out
      have hc := hN 11 (by omega)
      rw [show 12 - 11 = 0 + 1 from rfl, findK_step] at hR
      clear hr
      generalize nmB 11 = B at *
      cases ht : (B.toList == s.toList)
      · rw [ht, if_neg (by decide)] at hR
        have HR : Hid (findK s 12 (12 - 12) = (r, t)) := Lib.hid hR
        clear hR hN
        go_wp2
        go_round
        case rel => exact ⟨12, by omega, by go_num, HR⟩
        case measure => simp [intOf]
      · rw [ht, if_pos rfl] at hR
        obtain ⟨rfl, rfl⟩ := Prod.mk.inj hR
        clear hR hN
        go_wp2
        go_ret2
        exact ⟨rfl, rfl⟩
    · have hR := hr.out
      rw [show 12 - 12 = 0 from rfl, findK_end] at hR
      obtain ⟨rfl, rfl⟩ := Prod.mk.inj hR
      clear hr hR hN
      go_wp2
      go_ret2
      exact ⟨rfl, rfl⟩
set_option maxRecDepth 100000 in
set_option maxHeartbeats 4000000 in
theorem kindOfRef_calls (s : ByteArray) (w : World) (hN : NamesAt 1 w) : Calls Tryd.prog 19 #[.string s] w fun e w' => e = .returned (.tuple #[.int .u8 (kindL s).1, .int .i64 (kindL s).2]) ∧ w = w' := by
  unfold kindL
  obtain ⟨R, hR⟩ : ∃ R, findK s 0 12 = R := ⟨_, rfl⟩
  rw [hR]
  obtain ⟨r, t⟩ := R
  have HR : Hid (findK s 0 (12 - 0) = (r, t)) := Lib.hid hR
  clear hR
  go_enter Tryd.func19, Tryd.ntmps19
  go_wp2
  go_loop [4] (fun i => ∃ k : Nat, k ≤ 12 ∧ i = .int .i64 k ∧ Hid (findK s k (12 - k) = (r, t))) (fun i => 12 - (intOf i).toNat)
  case atStart => exact ⟨0, by omega, rfl, HR⟩
  case round =>
    clear HR
    obtain ⟨k, hk, rfl, hr⟩ := hrel
    have kc : k = 0 ∨ k = 1 ∨ k = 2 ∨ k = 3 ∨ k = 4 ∨ k = 5 ∨ k = 6 ∨ k = 7 ∨ k = 8 ∨ k = 9 ∨ k = 10 ∨ k = 11 ∨ k = 12 := by omega
    rcases kc with rfl | rfl | rfl | rfl | rfl | rfl | rfl | rfl | rfl | rfl | rfl | rfl | rfl
    · have hR := hr.out
      have hc := hN 0 (by omega)
      rw [show 12 - 0 = 11 + 1 from rfl, findK_step] at hR
      clear hr
      generalize nmB 0 = B at *
      cases ht : (B.toList == s.toList)
      · rw [ht, if_neg (by decide)] at hR
        have HR : Hid (findK s 1 (12 - 1) = (r, t)) := Lib.hid hR
        clear hR hN
        go_wp2
        go_round
        case rel => exact ⟨1, by omega, by go_num, HR⟩
        case measure => simp [intOf]
      · rw [ht, if_pos rfl] at hR
        obtain ⟨rfl, rfl⟩ := Prod.mk.inj hR
        clear hR hN
        go_wp2
        go_ret2
        exact ⟨rfl, rfl⟩
    · have hR := hr.out
      have hc := hN 1 (by omega)
      rw [show 12 - 1 = 10 + 1 from rfl, findK_step] at hR
      clear hr
      generalize nmB 1 = B at *
      cases ht : (B.toList == s.toList)
      · rw [ht, if_neg (by decide)] at hR
        have HR : Hid (findK s 2 (12 - 2) = (r, t)) := Lib.hid hR
        clear hR hN
        go_wp2
        go_round
        case rel => exact ⟨2, by omega, by go_num, HR⟩
        case measure => simp [intOf]
      · rw [ht, if_pos rfl] at hR
        obtain ⟨rfl, rfl⟩ := Prod.mk.inj hR
        clear hR hN
        go_wp2
        go_ret2
        exact ⟨rfl, rfl⟩
    · have hR := hr.out
      have hc := hN 2 (by omega)
      rw [show 12 - 2 = 9 + 1 from rfl, findK_step] at hR
      clear hr
      generalize nmB 2 = B at *
      cases ht : (B.toList == s.toList)
      · rw [ht, if_neg (by decide)] at hR
        have HR : Hid (findK s 3 (12 - 3) = (r, t)) := Lib.hid hR
        clear hR hN
        go_wp2
        go_round
        case rel => exact ⟨3, by omega, by go_num, HR⟩
        case measure => simp [intOf]
      · rw [ht, if_pos rfl] at hR
        obtain ⟨rfl, rfl⟩ := Prod.mk.inj hR
        clear hR hN
        go_wp2
        go_ret2
        exact ⟨rfl, rfl⟩
    · have hR := hr.out
      have hc := hN 3 (by omega)
      rw [show 12 - 3 = 8 + 1 from rfl, findK_step] at hR
      clear hr
      generalize nmB 3 = B at *
      cases ht : (B.toList == s.toList)
      · rw [ht, if_neg (by decide)] at hR
        have HR : Hid (findK s 4 (12 - 4) = (r, t)) := Lib.hid hR
        clear hR hN
        go_wp2
        go_round
        case rel => exact ⟨4, by omega, by go_num, HR⟩
        case measure => simp [intOf]
      · rw [ht, if_pos rfl] at hR
        obtain ⟨rfl, rfl⟩ := Prod.mk.inj hR
        clear hR hN
        go_wp2
        go_ret2
        exact ⟨rfl, rfl⟩
    · have hR := hr.out
      have hc := hN 4 (by omega)
      rw [show 12 - 4 = 7 + 1 from rfl, findK_step] at hR
      clear hr
      generalize nmB 4 = B at *
      cases ht : (B.toList == s.toList)
      · rw [ht, if_neg (by decide)] at hR
        have HR : Hid (findK s 5 (12 - 5) = (r, t)) := Lib.hid hR
        clear hR hN
        go_wp2
        go_round
        case rel => exact ⟨5, by omega, by go_num, HR⟩
        case measure => simp [intOf]
      · rw [ht, if_pos rfl] at hR
        obtain ⟨rfl, rfl⟩ := Prod.mk.inj hR
        clear hR hN
        go_wp2
        go_ret2
        exact ⟨rfl, rfl⟩
    · have hR := hr.out
      have hc := hN 5 (by omega)
      rw [show 12 - 5 = 6 + 1 from rfl, findK_step] at hR
      clear hr
      generalize nmB 5 = B at *
      cases ht : (B.toList == s.toList)
      · rw [ht, if_neg (by decide)] at hR
        have HR : Hid (findK s 6 (12 - 6) = (r, t)) := Lib.hid hR
        clear hR hN
        go_wp2
        go_round
        case rel => exact ⟨6, by omega, by go_num, HR⟩
        case measure => simp [intOf]
      · rw [ht, if_pos rfl] at hR
        obtain ⟨rfl, rfl⟩ := Prod.mk.inj hR
        clear hR hN
        go_wp2
        go_ret2
        exact ⟨rfl, rfl⟩
    · have hR := hr.out
      have hc := hN 6 (by omega)
      rw [show 12 - 6 = 5 + 1 from rfl, findK_step] at hR
      clear hr
      generalize nmB 6 = B at *
      cases ht : (B.toList == s.toList)
      · rw [ht, if_neg (by decide)] at hR
        have HR : Hid (findK s 7 (12 - 7) = (r, t)) := Lib.hid hR
        clear hR hN
        go_wp2
        go_round
        case rel => exact ⟨7, by omega, by go_num, HR⟩
        case measure => simp [intOf]
      · rw [ht, if_pos rfl] at hR
        obtain ⟨rfl, rfl⟩ := Prod.mk.inj hR
        clear hR hN
        go_wp2
        go_ret2
        exact ⟨rfl, rfl⟩
    · have hR := hr.out
      have hc := hN 7 (by omega)
      rw [show 12 - 7 = 4 + 1 from rfl, findK_step] at hR
      clear hr
      generalize nmB 7 = B at *
      cases ht : (B.toList == s.toList)
      · rw [ht, if_neg (by decide)] at hR
        have HR : Hid (findK s 8 (12 - 8) = (r, t)) := Lib.hid hR
        clear hR hN
        go_wp2
        go_round
        case rel => exact ⟨8, by omega, by go_num, HR⟩
        case measure => simp [intOf]
      · rw [ht, if_pos rfl] at hR
        obtain ⟨rfl, rfl⟩ := Prod.mk.inj hR
        clear hR hN
        go_wp2
        go_ret2
        exact ⟨rfl, rfl⟩
    · have hR := hr.out
      have hc := hN 8 (by omega)
      rw [show 12 - 8 = 3 + 1 from rfl, findK_step] at hR
      clear hr
      generalize nmB 8 = B at *
      cases ht : (B.toList == s.toList)
      · rw [ht, if_neg (by decide)] at hR
        have HR : Hid (findK s 9 (12 - 9) = (r, t)) := Lib.hid hR
        clear hR hN
        go_wp2
        go_round
        case rel => exact ⟨9, by omega, by go_num, HR⟩
        case measure => simp [intOf]
      · rw [ht, if_pos rfl] at hR
        obtain ⟨rfl, rfl⟩ := Prod.mk.inj hR
        clear hR hN
        go_wp2
        go_ret2
        exact ⟨rfl, rfl⟩
    · have hR := hr.out
      have hc := hN 9 (by omega)
      rw [show 12 - 9 = 2 + 1 from rfl, findK_step] at hR
      clear hr
      generalize nmB 9 = B at *
      cases ht : (B.toList == s.toList)
      · rw [ht, if_neg (by decide)] at hR
        have HR : Hid (findK s 10 (12 - 10) = (r, t)) := Lib.hid hR
        clear hR hN
        go_wp2
        go_round
        case rel => exact ⟨10, by omega, by go_num, HR⟩
        case measure => simp [intOf]
      · rw [ht, if_pos rfl] at hR
        obtain ⟨rfl, rfl⟩ := Prod.mk.inj hR
        clear hR hN
        go_wp2
        go_ret2
        exact ⟨rfl, rfl⟩
    · have hR := hr.out
      have hc := hN 10 (by omega)
      rw [show 12 - 10 = 1 + 1 from rfl, findK_step] at hR
      clear hr
      generalize nmB 10 = B at *
      cases ht : (B.toList == s.toList)
      · rw [ht, if_neg (by decide)] at hR
        have HR : Hid (findK s 11 (12 - 11) = (r, t)) := Lib.hid hR
        clear hR hN
        go_wp2
        go_round
        case rel => exact ⟨11, by omega, by go_num, HR⟩
        case measure => simp [intOf]
      · rw [ht, if_pos rfl] at hR
        obtain ⟨rfl, rfl⟩ := Prod.mk.inj hR
        clear hR hN
        go_wp2
        go_ret2
        exact ⟨rfl, rfl⟩
    · have hR := hr.out
      have hc := hN 11 (by omega)
      rw [show 12 - 11 = 0 + 1 from rfl, findK_step] at hR
      clear hr
      generalize nmB 11 = B at *
      cases ht : (B.toList == s.toList)
      · rw [ht, if_neg (by decide)] at hR
        have HR : Hid (findK s 12 (12 - 12) = (r, t)) := Lib.hid hR
        clear hR hN
        go_wp2
        go_round
        case rel => exact ⟨12, by omega, by go_num, HR⟩
        case measure => simp [intOf]
      · rw [ht, if_pos rfl] at hR
        obtain ⟨rfl, rfl⟩ := Prod.mk.inj hR
        clear hR hN
        go_wp2
        go_ret2
        exact ⟨rfl, rfl⟩
    · have hR := hr.out
      rw [show 12 - 12 = 0 from rfl, findK_end] at hR
      obtain ⟨rfl, rfl⟩ := Prod.mk.inj hR
      clear hr hR hN
      go_wp2
      go_ret2
      exact ⟨rfl, rfl⟩
end Go.Proofs.YtodjcgkbcbaadaaDoor.Va
