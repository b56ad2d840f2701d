/- The walks of way.key, way.fine and way.Right, of the document's step and Right. -/
import Derived.Test.YtoddjofckbfkhaaDoorKeyW
import Derived.Test.YtoddjofckbfkhaaDoorShelf
import Derived.Test.YtoddjofckbfkhaaDoorCmpRW
namespace Go.Proofs.YtoddjofckbfkhaaDoor.Wy
open Go.RowKit Mem Ops Ut
abbrev Tabs (w : World) : Prop := Lib.Utf8Tabs 2 3 w
theorem Tabs.below {w w' : World} (h : Tabs w) (k : Below w.heap.size w w') : Tabs w' := Utf8Tabs_below h k
set_option maxHeartbeats 1000000 in
theorem key_calls (s : ByteArray) (w : World) (hs : s.size ≤ 9223372036854775807) (hT : Tabs w) : Calls Tryd.prog 58 #[.string s] w fun e w' => e = .returned (.bool (keyR s.data.toList)) ∧ Below w.heap.size w w' := by
  have hv := Tryd.utf8_ValidString s w (by omega) hT
  unfold keyR
  rw [len_str]
  generalize Lib.validD s.data.toList = V at *
  have HV := Lib.hid hv
  obtain ⟨Z, hZ⟩ : ∃ Z, (decide (1 ≤ s.size) && (decide (s.size ≤ 64) && V)) = Z := ⟨_, rfl⟩
  rw [hZ]
  have HZ := Lib.hid hZ
  obtain ⟨R, hR⟩ : ∃ R, (plainT s.data.toList && Z) = R := ⟨_, rfl⟩
  rw [hR]
  have HR : Hid ((plainT (s.data.toList.drop 0) && Z) = R) := Lib.hid hR
  clear hR hv hZ hT
  go_enter Tryd.func58, Tryd.ntmps58
  go_wp2
  go_loop [6] (fun i => ∃ k : Nat, k ≤ s.size ∧ i = .int .i64 k ∧ Hid ((plainT (s.data.toList.drop k) && Z) = R)) (fun i => s.size - (intOf i).toNat)
  case atStart => exact ⟨0, Nat.zero_le _, rfl, HR⟩
  case round =>
    clear HR
    obtain ⟨k, hk, rfl, hr⟩ := hrel
    by_cases hlt : k < s.size
    · have hR := hr.out
      rw [plain_drop _ k (by rw [len_str]; exact hlt), ← str_at s k hlt] at hR
      have p0 : (k : Int) < (s.size : Int) := by omega
      have p2 : (k : Int) ≤ 9223372036854775806 := by omega
      have p3 : decide (k < s.size) = true := by simpa using hlt
      obtain ⟨y, hy⟩ : ∃ y : Int, ((s[k]'hlt).toNat : Int) = y := ⟨_, rfl⟩
      unfold okB at hR
      rw [hy] at hR
      clear hr
      by_cases hc : y < 32
      · rw [decide_eq_true hc, Bool.true_or, Bool.not_true, Bool.false_and, Bool.false_and] at hR
        subst hR
        go_wp2
        go_ret
        exact ⟨rfl, Below.refl _ _⟩
      · rw [decide_eq_false hc, Bool.false_or] at hR
        by_cases hd : y = 127
        · have p4 : (y == 127) = true := by simpa using hd
          rw [p4, Bool.not_true, Bool.false_and, Bool.false_and] at hR
          subst hR
          clear hd
          go_wp2
          go_ret
          exact ⟨rfl, Below.refl _ _⟩
        · have p4 : (y == 127) = false := by simpa using hd
          rw [p4, Bool.not_false, Bool.true_and] at hR
          have HR := Lib.hid hR
          clear hR hd
          go_wp2
          go_round
          case rel => exact ⟨k + 1, by omega, by go_num, HR⟩
          case measure => simp [intOf]; omega
    · obtain rfl : k = s.size := by omega
      have hR := hr.out
      rw [← len_str s, List.drop_length, show plainT [] = true from rfl, Bool.true_and] at hR
      have hZ := HZ.out
      rw [hR] at hZ
      clear hr HZ hR
      by_cases h1 : 1 ≤ s.size
      · have n1 : ¬ s.toList = [] := by
          rw [ByteArray.toList_eq]; intro e; have := len_str s; rw [e] at this; simp at this; omega
        have n2 : s.toList.isEmpty = false := by simpa using n1
        rw [decide_eq_true h1, Bool.true_and] at hZ
        by_cases h2 : s.size ≤ 64
        · rw [decide_eq_true h2, Bool.true_and] at hZ
          subst hZ
          have p3 : (s.size : Int) ≤ 64 := by omega
          clear h1
          go_wp2_with (go_at_call 61; refine HV.out.mono ?_; rintro e w1 ⟨rfl, hb⟩)
          go_ret
          exact ⟨rfl, hb⟩
        · rw [decide_eq_false h2, Bool.false_and] at hZ
          subst hZ
          have p3 : ¬ (s.size : Int) ≤ 64 := by omega
          clear h1
          go_wp2_with fail
          go_ret
          exact ⟨rfl, Below.refl _ _⟩
      · rw [decide_eq_false h1, Bool.false_and] at hZ
        subst hZ
        have n1 : s.toList = [] := by
          rw [ByteArray.toList_eq]; exact List.eq_nil_of_length_eq_zero (by rw [len_str]; omega)
        have n2 : s.toList.isEmpty = true := by simp [n1]
        clear h1
        go_wp2_with fail
        go_ret
        exact ⟨rfl, Below.refl _ _⟩
/-- A step is right. -/
def fineR (s : St) : Bool := if s.kind = 1 then keyR s.key.data.toList && (s.num == 0) else (s.kind == 2 || s.kind == 3) && (s.key.toList.isEmpty && (decide (0 ≤ s.num) && decide (s.num ≤ 2147483647)))
theorem st_block (w : World) (s : St) : (w.alloc (.cells s.cells.toArray 59)).cell? ⟨w.heap.size, 0, none⟩ = some (.int .u8 s.kind) ∧ (w.alloc (.cells s.cells.toArray 59)).cell? ⟨w.heap.size, 1, none⟩ = some (.string s.key) ∧ (w.alloc (.cells s.cells.toArray 59)).cell? ⟨w.heap.size, 2, none⟩ = some (.int .i64 s.num) :=
  ⟨((Blk.new w _ _).cell 0).trans rfl, ((Blk.new w _ _).cell 1).trans rfl, ((Blk.new w _ _).cell 2).trans rfl⟩
/-- How the tests of a step fall out. -/
theorem fine_cases (s : St) : (s.kind = 1 ∧ (s.num == 0) = true ∧ fineR s = keyR s.key.data.toList) ∨ (s.kind = 1 ∧ (s.num == 0) = false ∧ fineR s = false) ∨
    ((s.kind == 1) = false ∧ (s.kind == 2) = false ∧ (s.kind == 3) = false ∧ fineR s = false) ∨
    ((s.kind = 2 ∨ s.kind = 3) ∧ s.key.toList.isEmpty = false ∧ ¬ s.key.toList = [] ∧ fineR s = false) ∨
    ((s.kind = 2 ∨ s.kind = 3) ∧ s.key.toList.isEmpty = true ∧ s.key.toList = [] ∧ ¬ 0 ≤ s.num ∧ fineR s = false) ∨
    ((s.kind = 2 ∨ s.kind = 3) ∧ s.key.toList.isEmpty = true ∧ s.key.toList = [] ∧ 0 ≤ s.num ∧ ¬ s.num ≤ 2147483647 ∧ fineR s = false) ∨
    ((s.kind = 2 ∨ s.kind = 3) ∧ s.key.toList.isEmpty = true ∧ s.key.toList = [] ∧ 0 ≤ s.num ∧ s.num ≤ 2147483647 ∧ fineR s = true) := by
  unfold fineR
  by_cases h1 : s.kind = 1
  · by_cases h2 : s.num = 0 <;> simp [h1, h2]
  · by_cases h2 : s.kind = 2 ∨ s.kind = 3
    · have e : (s.kind == 2 || s.kind == 3) = true := by simpa using h2
      rw [if_neg h1, e, Bool.true_and]
      by_cases h3 : s.key.toList = []
      · by_cases h4 : 0 ≤ s.num <;> by_cases h5 : s.num ≤ 2147483647 <;> simp [h1, h2, h3, h4, h5]
      · simp [h1, h2, h3]
    · have e : (s.kind == 2 || s.kind == 3) = false := by simpa using h2
      rw [if_neg h1, e, Bool.false_and]
      simp only [not_or] at h2
      simp [h1, h2]
set_option maxRecDepth 100000 in
set_option maxHeartbeats 2000000 in
theorem fine_calls (s : St) (w : World) (hs : s.key.size ≤ 9223372036854775807) (hT : Tabs w) : Calls Tryd.prog 28 #[.agg s.cells.toArray] w fun e w' => e = .returned (.bool (fineR s)) ∧ Below w.heap.size w w' := by
  have hB1 := (Below.refl w.heap.size w).alloc (Nat.le_refl _) (.cells s.cells.toArray 59)
  have hk := key_calls s.key _ hs (hT.below hB1)
  have hz : w.heap.size ≤ (w.alloc (.cells s.cells.toArray 59)).heap.size := by simp
  have cs := fine_cases s
  obtain ⟨kd, key, num⟩ := s
  simp only [St.cells] at *
  generalize keyR key.data.toList = B at *
  have hk := Lib.hid hk
  rcases cs with ⟨h1, h2, e⟩ | ⟨h1, h2, e⟩ | ⟨h1, h2, h3, e⟩ | ⟨h1, h2, h3, e⟩ | ⟨h1, h2, h3, h4, e⟩ | ⟨h1, h2, h3, h4, h5, e⟩ | ⟨h1, h2, h3, h4, h5, e⟩
  · subst h1
    rw [e]
    clear e
    cases B
    all_goals
      go_enter Tryd.func28, Tryd.ntmps28
      go_wp2_with (go_at_call 58; refine hk.out.mono ?_; rintro e w1 ⟨rfl, hb⟩; have c2 : w1.cell? ⟨w.heap.size, 2, none⟩ = some (.int .i64 num) := ((Blk.new w _ _).below hb (by simp)).cell 2)
      go_ret
      exact ⟨rfl, hB1.trans (hb.mono hz)⟩
  · subst h1
    rw [e]
    clear e
    cases B
    all_goals
      go_enter Tryd.func28, Tryd.ntmps28
      go_wp2_with (go_at_call 58; refine hk.out.mono ?_; rintro e w1 ⟨rfl, hb⟩; have c2 : w1.cell? ⟨w.heap.size, 2, none⟩ = some (.int .i64 num) := ((Blk.new w _ _).below hb (by simp)).cell 2)
      go_ret
      exact ⟨rfl, hB1.trans (hb.mono hz)⟩
  · rw [e]
    clear e
    go_enter Tryd.func28, Tryd.ntmps28
    go_wp2_with fail
    go_ret
    exact ⟨rfl, hB1⟩
  · rw [e]
    clear e
    rcases h1 with rfl | rfl
    all_goals
      go_enter Tryd.func28, Tryd.ntmps28
      go_wp2_with fail
      go_ret
      exact ⟨rfl, hB1⟩
  · rw [e]
    clear e
    rcases h1 with rfl | rfl
    all_goals
      go_enter Tryd.func28, Tryd.ntmps28
      go_wp2_with fail
      go_ret
      exact ⟨rfl, hB1⟩
  · rw [e]
    clear e
    rcases h1 with rfl | rfl
    all_goals
      go_enter Tryd.func28, Tryd.ntmps28
      go_wp2_with fail
      go_ret
      exact ⟨rfl, hB1⟩
  · rw [e]
    clear e
    rcases h1 with rfl | rfl
    all_goals
      go_enter Tryd.func28, Tryd.ntmps28
      go_wp2_with fail
      go_ret
      exact ⟨rfl, hB1⟩
set_option maxRecDepth 100000 in
set_option maxHeartbeats 2000000 in
theorem step_calls (s : St) (w : World) (hs : s.key.size ≤ 9223372036854775807) : Calls Tryd.prog 27 #[.agg s.cells.toArray] w fun e w' => e = .returned (.bool (fineR s)) ∧ Below w.heap.size w w' := by
  have hB1 := (Below.refl w.heap.size w).alloc (Nat.le_refl _) (.cells s.cells.toArray 59)
  have hk := keyRef_calls s.key (w.alloc (.cells s.cells.toArray 59)) hs
  have hz : w.heap.size ≤ (w.alloc (.cells s.cells.toArray 59)).heap.size := by simp
  have cs := fine_cases s
  obtain ⟨kd, key, num⟩ := s
  simp only [St.cells] at *
  generalize keyR key.data.toList = B at *
  have hk := Lib.hid hk
  rcases cs with ⟨h1, h2, e⟩ | ⟨h1, h2, e⟩ | ⟨h1, h2, h3, e⟩ | ⟨h1, h2, h3, e⟩ | ⟨h1, h2, h3, h4, e⟩ | ⟨h1, h2, h3, h4, h5, e⟩ | ⟨h1, h2, h3, h4, h5, e⟩
  · subst h1
    rw [e]
    clear e
    cases B
    all_goals
      go_enter Tryd.func27, Tryd.ntmps27
      go_wp2_with (go_at_call 57; refine hk.out.mono ?_; rintro e w1 ⟨rfl, rfl⟩)
      go_ret
      exact ⟨rfl, hB1⟩
  · subst h1
    rw [e]
    clear e
    cases B
    all_goals
      go_enter Tryd.func27, Tryd.ntmps27
      go_wp2_with (go_at_call 57; refine hk.out.mono ?_; rintro e w1 ⟨rfl, rfl⟩)
      go_ret
      exact ⟨rfl, hB1⟩
  · rw [e]
    clear e
    go_enter Tryd.func27, Tryd.ntmps27
    go_wp2_with fail
    go_ret
    exact ⟨rfl, hB1⟩
  · rw [e]
    clear e
    rcases h1 with rfl | rfl
    all_goals
      go_enter Tryd.func27, Tryd.ntmps27
      go_wp2_with fail
      go_ret
      exact ⟨rfl, hB1⟩
  · rw [e]
    clear e
    rcases h1 with rfl | rfl
    all_goals
      go_enter Tryd.func27, Tryd.ntmps27
      go_wp2_with fail
      go_ret
      exact ⟨rfl, hB1⟩
  · rw [e]
    clear e
    rcases h1 with rfl | rfl
    all_goals
      go_enter Tryd.func27, Tryd.ntmps27
      go_wp2_with fail
      go_ret
      exact ⟨rfl, hB1⟩
  · rw [e]
    clear e
    rcases h1 with rfl | rfl
    all_goals
      go_enter Tryd.func27, Tryd.ntmps27
      go_wp2_with fail
      go_ret
      exact ⟨rfl, hB1⟩
end Go.Proofs.YtoddjofckbfkhaaDoor.Wy
