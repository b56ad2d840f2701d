/- The walks of the document's tail, Wide and Utf8. -/
import Derived.Test.YtodjcgkbcbaadaaDoorProg
import Derived.Test.YtodjcgkbcbaadaaDoorPl
import Derived.Lib.ValidLaws
import Derived.WalkKit
namespace Go.Proofs.YtodjcgkbcbaadaaDoor.Ut
open Go.RowKit Mem Ops
def goOn (c : UInt8) : Bool := decide (128 ≤ (c.toNat : Int)) && decide ((c.toNat : Int) ≤ 191)
/-- Bytes i to n - 1 go on. -/
def goR (l : List UInt8) (i n : Nat) : Bool := ((l.drop i).take (n - i)).all goOn
theorem goR_end (l : List UInt8) (n : Nat) : goR l n n = true := by simp [goR]
theorem goR_step (l : List UInt8) (i n : Nat) (h : i < n) (hn : n ≤ l.length) : goR l i n = (goOn (l.getD i 0) && goR l (i + 1) n) := by
  unfold goR
  rw [List.drop_eq_getElem_cons (by omega), show n - i = (n - (i + 1)) + 1 from by omega, List.take_succ_cons, List.all_cons]
  simp [show i < l.length from by omega]
/-- Bytes 1 to n - 1 go on, the first of them from lo to hi. -/
def tailR (l : List UInt8) (n : Nat) (lo hi : Int) : Bool := decide (n ≤ l.length) && (decide (lo ≤ ((l.getD 1 0).toNat : Int)) && (decide (((l.getD 1 0).toNat : Int) ≤ hi) && goR l 2 n))
theorem str_at (s : ByteArray) (k : Nat) (h : k < s.size) : s[k] = s.data.toList.getD k 0 := by
  have h2 : k < s.data.toList.length := by simpa using h
  rw [List.getD_eq_getElem?_getD, List.getElem?_eq_getElem h2]
  simp [ByteArray.getElem_eq_getElem_data]
theorem len_str (s : ByteArray) : s.data.toList.length = s.size := rfl
set_option maxHeartbeats 1000000 in
theorem tail_calls (s : ByteArray) (n : Nat) (lo hi : Int) (w : World) (h2 : 2 ≤ n) (h4 : n ≤ 4) :
    Calls Tryd.prog 129 #[.string s, .int .i64 n, .int .u8 lo, .int .u8 hi] w fun e w' => e = .returned (.bool (tailR s.data.toList n lo hi)) ∧ w = w' := by
  unfold tailR
  rw [len_str]
  by_cases hn : n ≤ s.size
  · rw [decide_eq_true hn, Bool.true_and]
    have q0 : ¬ (s.size : Int) < (n : Int) := by omega
    have h1 : 1 < s.size := by omega
    rw [← str_at s 1 h1]
    have q1 : decide (1 < s.size) = true := by simpa using h1
    obtain ⟨x, hx⟩ : ∃ x : Int, ((s[1]'h1).toNat : Int) = x := ⟨_, rfl⟩
    rw [hx]
    by_cases ha : lo ≤ x
    · rw [decide_eq_true ha, Bool.true_and]
      have q2 : ¬ x < lo := by omega
      by_cases hb : x ≤ hi
      · rw [decide_eq_true hb, Bool.true_and]
        have q3 : ¬ hi < x := by omega
        obtain ⟨R, hR⟩ : ∃ R, goR s.data.toList 2 n = R := ⟨_, rfl⟩
        have HR := Lib.hid hR
        rw [hR]
        have q5 : (n : Int) ≤ 4 := by omega
        clear hR ha hb
        go_enter Tryd.func129, Tryd.ntmps129
        go_wp2
        go_loop [9] (fun i => ∃ k : Nat, 2 ≤ k ∧ k ≤ n ∧ i = .int .i64 k ∧ Hid (goR s.data.toList k n = R)) (fun i => n - (intOf i).toNat)
        case atStart => exact ⟨2, Nat.le_refl _, h2, rfl, HR⟩
        case round =>
          clear HR
          obtain ⟨k, hk2, hk, rfl, hr⟩ := hrel
          by_cases hlt : k < n
          · have hR := hr.out
            rw [goR_step _ k n hlt (by rw [len_str]; omega), ← str_at s k (by omega)] at hR
            have p0 : k < s.size := by omega
            have p1 : (k : Int) < (n : Int) := by omega
            have p2 : (k : Int) ≤ 4 := by omega
            have p3 : decide (k < s.size) = true := by simpa using p0
            obtain ⟨y, hy⟩ : ∃ y : Int, ((s[k]'p0).toNat : Int) = y := ⟨_, rfl⟩
            unfold goOn at hR
            rw [hy] at hR
            clear hr
            by_cases hc : y < 128
            · rw [decide_eq_false (by omega), Bool.false_and, Bool.false_and] at hR
              subst hR
              go_wp2
              go_ret
              exact ⟨rfl, rfl⟩
            · rw [decide_eq_true (show 128 ≤ y by omega), Bool.true_and] at hR
              by_cases hd : y ≤ 191
              · rw [decide_eq_true hd, Bool.true_and] at hR
                have p4 : ¬ 191 < y := by omega
                have HR := Lib.hid hR
                clear hR
                go_wp2
                go_round
                case rel => exact ⟨k + 1, by omega, by omega, by go_num, HR⟩
                case measure => simp [intOf]; omega
              · rw [decide_eq_false hd, Bool.false_and] at hR
                have p4 : 191 < y := by omega
                subst hR
                go_wp2
                go_ret
                exact ⟨rfl, rfl⟩
          · obtain rfl : k = n := by omega
            have hR := hr.out
            rw [goR_end] at hR
            subst hR
            clear hr
            go_wp2
            go_ret
            exact ⟨rfl, rfl⟩
      · rw [decide_eq_false hb, Bool.false_and]
        have q3 : hi < x := by omega
        go_enter Tryd.func129, Tryd.ntmps129
        go_wp2
        go_ret
        exact ⟨rfl, rfl⟩
    · rw [decide_eq_false ha, Bool.false_and]
      have q2 : x < lo := by omega
      go_enter Tryd.func129, Tryd.ntmps129
      go_wp2
      go_ret
      exact ⟨rfl, rfl⟩
  · rw [decide_eq_false hn, Bool.false_and]
    have q0 : (s.size : Int) < (n : Int) := by omega
    go_enter Tryd.func129, Tryd.ntmps129
    go_wp2
    go_ret
    exact ⟨rfl, rfl⟩
/-- How many bytes the character at the front has; 0: none stands there. -/
def wideR (l : List UInt8) : Nat :=
  if l = [] then 0 else if ((l.getD 0 0).toNat : Int) < 128 then 1
  else if ((l.getD 0 0).toNat : Int) < 194 then 0
  else if ((l.getD 0 0).toNat : Int) < 224 then (if tailR l 2 128 191 = true then 2 else 0)
  else if ((l.getD 0 0).toNat : Int) = 224 then (if tailR l 3 160 191 = true then 3 else 0)
  else if ((l.getD 0 0).toNat : Int) < 237 then (if tailR l 3 128 191 = true then 3 else 0)
  else if ((l.getD 0 0).toNat : Int) = 237 then (if tailR l 3 128 159 = true then 3 else 0)
  else if ((l.getD 0 0).toNat : Int) < 240 then (if tailR l 3 128 191 = true then 3 else 0)
  else if ((l.getD 0 0).toNat : Int) = 240 then (if tailR l 4 144 191 = true then 4 else 0)
  else if ((l.getD 0 0).toNat : Int) < 244 then (if tailR l 4 128 191 = true then 4 else 0)
  else if ((l.getD 0 0).toNat : Int) = 244 then (if tailR l 4 128 143 = true then 4 else 0)
  else 0

set_option maxHeartbeats 4000000 in
theorem wide_calls (s : ByteArray) (w : World) : Calls Tryd.prog 103 #[.string s] w fun e w' => e = .returned (.int .i64 (wideR s.data.toList)) ∧ w = w' := by
  unfold wideR
  by_cases he : s.data.toList = []
  · rw [if_pos he]
    have hl : s.toList = [] := by rw [ByteArray.toList_eq]; exact he
    go_enter Tryd.func103, Tryd.ntmps103
    go_wp2
    go_ret
    exact ⟨rfl, rfl⟩
  · rw [if_neg he]
    have hp : 0 < s.size := by
      have : 0 < s.data.toList.length := List.length_pos_iff.2 he
      exact this
    have hl : ¬ s.toList = [] := by rw [ByteArray.toList_eq]; exact he
    have hl2 : s.toList.isEmpty = false := by simpa using hl
    have hl3 : (s.toList == []) = false := by simpa using hl
    have q1 : decide (0 < s.size) = true := by simpa using hp
    have LT := (s[0]'hp).toNat_lt
    rw [← str_at s 0 hp]
    obtain ⟨x, hx⟩ : ∃ x : Int, ((s[0]'hp).toNat : Int) = x := ⟨_, rfl⟩
    have LX : x < 256 := by omega
    have LY : 0 ≤ x := by omega
    clear LT he
    rw [hx]
    by_cases c0 : x < 128
    · rw [if_pos c0]
      go_enter Tryd.func103, Tryd.ntmps103
      go_wp2
      go_ret
      exact ⟨rfl, rfl⟩
    · rw [if_neg c0]
      by_cases c1 : x < 194
      · rw [if_pos c1]
        have t0 : ¬ x < 128 := by omega
        have t1 : ¬ 194 ≤ x := by omega
        have t2 : x ≤ 223 := by omega
        have t3 : (x == 224) = false := by simp; omega
        have t3n : (x != 224) = true := by simp; omega
        have t4 : ¬ 225 ≤ x := by omega
        have t5 : x ≤ 239 := by omega
        have t6 : (x == 237) = false := by simp; omega
        have t6n : (x != 237) = true := by simp; omega
        have t7 : (x == 240) = false := by simp; omega
        have t7n : (x != 240) = true := by simp; omega
        have t8 : ¬ 241 ≤ x := by omega
        have t9 : x ≤ 243 := by omega
        have t10 : (x == 244) = false := by simp; omega
        have t10n : (x != 244) = true := by simp; omega
        clear c0
        go_enter Tryd.func103, Tryd.ntmps103
        go_wp2_with fail
        go_ret
        exact ⟨rfl, rfl⟩
      rw [if_neg c1]
      by_cases c2 : x < 224
      · rw [if_pos c2]
        have t0 : ¬ x < 128 := by omega
        have t1 : 194 ≤ x := by omega
        have t2 : x ≤ 223 := by omega
        have t3 : (x == 224) = false := by simp; omega
        have t3n : (x != 224) = true := by simp; omega
        have t4 : ¬ 225 ≤ x := by omega
        have t5 : x ≤ 239 := by omega
        have t6 : (x == 237) = false := by simp; omega
        have t6n : (x != 237) = true := by simp; omega
        have t7 : (x == 240) = false := by simp; omega
        have t7n : (x != 240) = true := by simp; omega
        have t8 : ¬ 241 ≤ x := by omega
        have t9 : x ≤ 243 := by omega
        have t10 : (x == 244) = false := by simp; omega
        have t10n : (x != 244) = true := by simp; omega
        have HT := tail_calls s 2 128 191 w (by decide) (by decide)
        generalize tailR s.data.toList 2 128 191 = B at *
        have HT := Lib.hid HT
        clear c0
        cases B
        all_goals
          go_enter Tryd.func103, Tryd.ntmps103
          go_wp2_with fail
          refine HT.out.mono ?_
          rintro e w1 ⟨rfl, rfl⟩
          go_wp2_with fail
          go_ret
          exact ⟨rfl, rfl⟩
      rw [if_neg c2]
      by_cases c3 : x = 224
      · rw [if_pos c3]
        have t0 : ¬ x < 128 := by omega
        have t1 : 194 ≤ x := by omega
        have t2 : ¬ x ≤ 223 := by omega
        have t3 : (x == 224) = true := by simp; omega
        have t3n : (x != 224) = false := by simp; omega
        have t4 : ¬ 225 ≤ x := by omega
        have t5 : x ≤ 239 := by omega
        have t6 : (x == 237) = false := by simp; omega
        have t6n : (x != 237) = true := by simp; omega
        have t7 : (x == 240) = false := by simp; omega
        have t7n : (x != 240) = true := by simp; omega
        have t8 : ¬ 241 ≤ x := by omega
        have t9 : x ≤ 243 := by omega
        have t10 : (x == 244) = false := by simp; omega
        have t10n : (x != 244) = true := by simp; omega
        have HT := tail_calls s 3 160 191 w (by decide) (by decide)
        generalize tailR s.data.toList 3 160 191 = B at *
        have HT := Lib.hid HT
        clear c0
        cases B
        all_goals
          go_enter Tryd.func103, Tryd.ntmps103
          go_wp2_with fail
          refine HT.out.mono ?_
          rintro e w1 ⟨rfl, rfl⟩
          go_wp2_with fail
          go_ret
          exact ⟨rfl, rfl⟩
      rw [if_neg c3]
      by_cases c4 : x < 237
      · rw [if_pos c4]
        have t0 : ¬ x < 128 := by omega
        have t1 : 194 ≤ x := by omega
        have t2 : ¬ x ≤ 223 := by omega
        have t3 : (x == 224) = false := by simp; omega
        have t3n : (x != 224) = true := by simp; omega
        have t4 : 225 ≤ x := by omega
        have t5 : x ≤ 239 := by omega
        have t6 : (x == 237) = false := by simp; omega
        have t6n : (x != 237) = true := by simp; omega
        have t7 : (x == 240) = false := by simp; omega
        have t7n : (x != 240) = true := by simp; omega
        have t8 : ¬ 241 ≤ x := by omega
        have t9 : x ≤ 243 := by omega
        have t10 : (x == 244) = false := by simp; omega
        have t10n : (x != 244) = true := by simp; omega
        have HT := tail_calls s 3 128 191 w (by decide) (by decide)
        generalize tailR s.data.toList 3 128 191 = B at *
        have HT := Lib.hid HT
        clear c0
        cases B
        all_goals
          go_enter Tryd.func103, Tryd.ntmps103
          go_wp2_with fail
          refine HT.out.mono ?_
          rintro e w1 ⟨rfl, rfl⟩
          go_wp2_with fail
          go_ret
          exact ⟨rfl, rfl⟩
      rw [if_neg c4]
      by_cases c5 : x = 237
      · rw [if_pos c5]
        have t0 : ¬ x < 128 := by omega
        have t1 : 194 ≤ x := by omega
        have t2 : ¬ x ≤ 223 := by omega
        have t3 : (x == 224) = false := by simp; omega
        have t3n : (x != 224) = true := by simp; omega
        have t4 : 225 ≤ x := by omega
        have t5 : x ≤ 239 := by omega
        have t6 : (x == 237) = true := by simp; omega
        have t6n : (x != 237) = false := by simp; omega
        have t7 : (x == 240) = false := by simp; omega
        have t7n : (x != 240) = true := by simp; omega
        have t8 : ¬ 241 ≤ x := by omega
        have t9 : x ≤ 243 := by omega
        have t10 : (x == 244) = false := by simp; omega
        have t10n : (x != 244) = true := by simp; omega
        have HT := tail_calls s 3 128 159 w (by decide) (by decide)
        generalize tailR s.data.toList 3 128 159 = B at *
        have HT := Lib.hid HT
        clear c0
        cases B
        all_goals
          go_enter Tryd.func103, Tryd.ntmps103
          go_wp2_with fail
          refine HT.out.mono ?_
          rintro e w1 ⟨rfl, rfl⟩
          go_wp2_with fail
          go_ret
          exact ⟨rfl, rfl⟩
      rw [if_neg c5]
      by_cases c6 : x < 240
      · rw [if_pos c6]
        have t0 : ¬ x < 128 := by omega
        have t1 : 194 ≤ x := by omega
        have t2 : ¬ x ≤ 223 := by omega
        have t3 : (x == 224) = false := by simp; omega
        have t3n : (x != 224) = true := by simp; omega
        have t4 : 225 ≤ x := by omega
        have t5 : x ≤ 239 := by omega
        have t6 : (x == 237) = false := by simp; omega
        have t6n : (x != 237) = true := by simp; omega
        have t7 : (x == 240) = false := by simp; omega
        have t7n : (x != 240) = true := by simp; omega
        have t8 : ¬ 241 ≤ x := by omega
        have t9 : x ≤ 243 := by omega
        have t10 : (x == 244) = false := by simp; omega
        have t10n : (x != 244) = true := by simp; omega
        have HT := tail_calls s 3 128 191 w (by decide) (by decide)
        generalize tailR s.data.toList 3 128 191 = B at *
        have HT := Lib.hid HT
        clear c0
        cases B
        all_goals
          go_enter Tryd.func103, Tryd.ntmps103
          go_wp2_with fail
          refine HT.out.mono ?_
          rintro e w1 ⟨rfl, rfl⟩
          go_wp2_with fail
          go_ret
          exact ⟨rfl, rfl⟩
      rw [if_neg c6]
      by_cases c7 : x = 240
      · rw [if_pos c7]
        have t0 : ¬ x < 128 := by omega
        have t1 : 194 ≤ x := by omega
        have t2 : ¬ x ≤ 223 := by omega
        have t3 : (x == 224) = false := by simp; omega
        have t3n : (x != 224) = true := by simp; omega
        have t4 : 225 ≤ x := by omega
        have t5 : ¬ x ≤ 239 := by omega
        have t6 : (x == 237) = false := by simp; omega
        have t6n : (x != 237) = true := by simp; omega
        have t7 : (x == 240) = true := by simp; omega
        have t7n : (x != 240) = false := by simp; omega
        have t8 : ¬ 241 ≤ x := by omega
        have t9 : x ≤ 243 := by omega
        have t10 : (x == 244) = false := by simp; omega
        have t10n : (x != 244) = true := by simp; omega
        have HT := tail_calls s 4 144 191 w (by decide) (by decide)
        generalize tailR s.data.toList 4 144 191 = B at *
        have HT := Lib.hid HT
        clear c0
        cases B
        all_goals
          go_enter Tryd.func103, Tryd.ntmps103
          go_wp2_with fail
          refine HT.out.mono ?_
          rintro e w1 ⟨rfl, rfl⟩
          go_wp2_with fail
          go_ret
          exact ⟨rfl, rfl⟩
      rw [if_neg c7]
      by_cases c8 : x < 244
      · rw [if_pos c8]
        have t0 : ¬ x < 128 := by omega
        have t1 : 194 ≤ x := by omega
        have t2 : ¬ x ≤ 223 := by omega
        have t3 : (x == 224) = false := by simp; omega
        have t3n : (x != 224) = true := by simp; omega
        have t4 : 225 ≤ x := by omega
        have t5 : ¬ x ≤ 239 := by omega
        have t6 : (x == 237) = false := by simp; omega
        have t6n : (x != 237) = true := by simp; omega
        have t7 : (x == 240) = false := by simp; omega
        have t7n : (x != 240) = true := by simp; omega
        have t8 : 241 ≤ x := by omega
        have t9 : x ≤ 243 := by omega
        have t10 : (x == 244) = false := by simp; omega
        have t10n : (x != 244) = true := by simp; omega
        have HT := tail_calls s 4 128 191 w (by decide) (by decide)
        generalize tailR s.data.toList 4 128 191 = B at *
        have HT := Lib.hid HT
        clear c0
        cases B
        all_goals
          go_enter Tryd.func103, Tryd.ntmps103
          go_wp2_with fail
          refine HT.out.mono ?_
          rintro e w1 ⟨rfl, rfl⟩
          go_wp2_with fail
          go_ret
          exact ⟨rfl, rfl⟩
      rw [if_neg c8]
      by_cases c9 : x = 244
      · rw [if_pos c9]
        have t0 : ¬ x < 128 := by omega
        have t1 : 194 ≤ x := by omega
        have t2 : ¬ x ≤ 223 := by omega
        have t3 : (x == 224) = false := by simp; omega
        have t3n : (x != 224) = true := by simp; omega
        have t4 : 225 ≤ x := by omega
        have t5 : ¬ x ≤ 239 := by omega
        have t6 : (x == 237) = false := by simp; omega
        have t6n : (x != 237) = true := by simp; omega
        have t7 : (x == 240) = false := by simp; omega
        have t7n : (x != 240) = true := by simp; omega
        have t8 : 241 ≤ x := by omega
        have t9 : ¬ x ≤ 243 := by omega
        have t10 : (x == 244) = true := by simp; omega
        have t10n : (x != 244) = false := by simp; omega
        have HT := tail_calls s 4 128 143 w (by decide) (by decide)
        generalize tailR s.data.toList 4 128 143 = B at *
        have HT := Lib.hid HT
        clear c0
        cases B
        all_goals
          go_enter Tryd.func103, Tryd.ntmps103
          go_wp2_with fail
          refine HT.out.mono ?_
          rintro e w1 ⟨rfl, rfl⟩
          go_wp2_with fail
          go_ret
          exact ⟨rfl, rfl⟩
      rw [if_neg c9]
      have t0 : ¬ x < 128 := by omega
      have t1 : 194 ≤ x := by omega
      have t2 : ¬ x ≤ 223 := by omega
      have t3 : (x == 224) = false := by simp; omega
      have t3n : (x != 224) = true := by simp; omega
      have t4 : 225 ≤ x := by omega
      have t5 : ¬ x ≤ 239 := by omega
      have t6 : (x == 237) = false := by simp; omega
      have t6n : (x != 237) = true := by simp; omega
      have t7 : (x == 240) = false := by simp; omega
      have t7n : (x != 240) = true := by simp; omega
      have t8 : 241 ≤ x := by omega
      have t9 : ¬ x ≤ 243 := by omega
      have t10 : (x == 244) = false := by simp; omega
      have t10n : (x != 244) = true := by simp; omega
      clear c0
      go_enter Tryd.func103, Tryd.ntmps103
      go_wp2_with fail
      go_ret
      exact ⟨rfl, rfl⟩
end Go.Proofs.YtodjcgkbcbaadaaDoor.Ut
