/- The walks of estuaryref13.Same and of WayOrder; the plain law. -/
import Derived.Test.YtoddjofckbfkhaaCmpRW
import Derived.Test.YtoddjofckbfkhaaCmpWW
namespace Go.Proofs.Ytoddjofckbfkhaa.Wy
open Go.RowKit Mem Ops
theorem cmpW_neg (l m : List St) : cmpW l m = - cmpW m l := by rw [cmpW_k, cmpW_k]; exact (lexL_is cmpK_is).neg _ _
theorem cmpW_trans (l m k : List St) (h1 : cmpW l m ≤ 0) (h2 : cmpW m k ≤ 0) : cmpW l k ≤ 0 := by
  rw [cmpW_k] at *; exact (lexL_is cmpK_is).trans _ _ _ h1 h2
theorem cmpW_strict (l m k : List St) (h1 : cmpW l m < 0) (h2 : cmpW m k ≤ 0) : cmpW l k < 0 := by
  have h3 := cmpW_trans l m k (by omega) h2
  rw [cmpW_k] at *
  by_cases e : lexL cmpK (l.map St.k) (k.map St.k) = 0
  · have := (lexL_is cmpK_is).back (by omega) h2 e; omega
  · omega
theorem lexL_take {α : Type} {c : α → α → Int} (hc : IsCmp c) : ∀ (l : List α) (n : Nat), lexL c (l.take n) l ≤ 0
  | [], n => by simp [lexL]
  | x :: l, 0 => by simp [lexL]
  | x :: l, n + 1 => by
    rw [List.take_succ_cons, lexL, if_pos ((hc.zero x x).2 rfl)]; exact lexL_take hc l n
theorem starts_le (l m : List St) (h : startsR l m = true) : cmpW m l ≤ 0 ∧ m.length ≤ l.length := by
  unfold startsR at h
  split at h
  · rename_i hl
    refine ⟨?_, hl⟩
    rw [eqL_k, decide_eq_true_eq, List.map_take] at h
    rw [cmpW_k, ← h]
    exact lexL_take cmpK_is _ _
  · cases h
theorem cmpW_cases : ∀ l m : List St, cmpW l m = -1 ∨ cmpW l m = 0 ∨ cmpW l m = 1
  | [], [] => .inr (.inl rfl)
  | [], _ :: _ => .inl rfl
  | _ :: _, [] => .inr (.inr rfl)
  | s :: l, t :: m => by
    rw [cmpW]
    by_cases h : cmpSt s t = 0
    · rw [if_pos h]; exact cmpW_cases l m
    · rw [if_neg h]
      rcases cmpSt_cases s t h with ⟨e, _⟩ | ⟨e, _⟩ | ⟨e, _⟩ | ⟨e, _⟩ | ⟨e, _⟩ | ⟨e, _⟩ <;> simp [e]

theorem same_calls (a a2 : Option Addr) (l m : List St) (n n2 cap cap2 : Nat) (w : World) (hn : n = l.length) (hn2 : n2 = m.length) (hl : l.length ≤ 140737488351232) (hm : m.length ≤ 140737488351232) (hH : Sts w a l) (hH2 : Sts w a2 m) :
    Calls Try.prog 6 #[.slice a n cap, .slice a2 n2 cap2] w fun e w' => e = .returned (.bool (cmpW l m == 0)) ∧ Below w.heap.size w w' := by
  subst hn
  subst hn2
  have h := cmpRef_calls a a2 l m _ _ cap cap2 w rfl rfl hl hm hH hH2
  have H := Lib.hid h
  clear h
  go_enter Try.func6, Try.ntmps6
  go_wp2_with (first | (go_at_call 9; refine H.out.mono ?_; rintro e w1 ⟨rfl, hb⟩))
  go_ret
  exact ⟨rfl, hb⟩

set_option maxRecDepth 100000 in
set_option maxHeartbeats 2000000 in
theorem order_law (a a2 a3 : Option Addr) (l m k : List St) (n n2 n3 cap cap2 cap3 : Nat) (w : World) (hn : n = l.length) (hn2 : n2 = m.length) (hn3 : n3 = k.length) (hl : l.length ≤ 140737488351232) (hm : m.length ≤ 140737488351232) (hk : k.length ≤ 140737488351232)
    (hc : n ≤ cap) (hH : Sts w a l) (hH2 : Sts w a2 m) (hH3 : Sts w a3 k) :
    Calls Try.prog 3 #[.slice a n cap, .slice a2 n2 cap2, .slice a3 n3 cap3] w fun e w' => e = .returned (.bool true) ∧ Below w.heap.size w w' := by
  subst hn
  subst hn2
  subst hn3
  have P1 := Lib.hid (fun w1 (hb : Below w.heap.size w w1) => cmpWay_calls a a2 l m _ _ cap cap2 w1 rfl rfl hl hm (hH.below hb) (hH2.below hb))
  have P2 := Lib.hid (fun w1 (hb : Below w.heap.size w w1) => cmpWay_calls a2 a3 m k _ _ cap2 cap3 w1 rfl rfl hm hk (hH2.below hb) (hH3.below hb))
  have P3 := Lib.hid (fun w1 (hb : Below w.heap.size w w1) => cmpWay_calls a a3 l k _ _ cap cap3 w1 rfl rfl hl hk (hH.below hb) (hH3.below hb))
  have P4 := Lib.hid (fun w1 (hb : Below w.heap.size w w1) => cmpWay_calls a2 a m l _ _ cap2 cap w1 rfl rfl hm hl (hH2.below hb) (hH.below hb))
  have P5 := Lib.hid (fun w1 (hb : Below w.heap.size w w1) => same_calls a a2 l m _ _ cap cap2 w1 rfl rfl hl hm (hH.below hb) (hH2.below hb))
  have P6 := Lib.hid (fun w1 (hb : Below w.heap.size w w1) => starts_calls a a2 l m _ _ cap cap2 w1 rfl rfl hl hm hc (hH.below hb) (hH2.below hb))
  have e1 := cmpW_neg m l
  have e2 := cmpW_trans l m k
  have e3 := cmpW_strict l m k
  have e4 := starts_le l m
  have x1 := cmpW_cases l m
  have x2 := cmpW_cases m k
  have x3 := cmpW_cases l k
  clear hH hH2 hH3 hl hm hk hc
  generalize cmpW l m = X at *
  generalize cmpW m k = Y at *
  generalize cmpW l k = Z at *
  generalize cmpW m l = X' at *
  generalize startsR l m = B at *
  subst e1
  have key : ∀ (B : Bool), (B = true → -X ≤ 0 ∧ m.length ≤ l.length) → B = false ∨ (B = true ∧ 0 ≤ X ∧ m.length ≤ l.length) := by
    intro B h
    cases B
    · exact .inl rfl
    · have := h rfl; exact .inr ⟨rfl, by omega, this.2⟩
  have k4 := key B e4
  clear key e4
  have hB0 := Below.refl w.heap.size w
  rcases k4 with rfl | ⟨rfl, k5, k6⟩
  · rcases x1 with rfl | rfl | rfl <;> rcases x2 with rfl | rfl | rfl <;> rcases x3 with rfl | rfl | rfl <;> first | (exfalso; omega) | skip
    all_goals
      clear e2 e3
      go_enter Try.func3, Try.ntmps3
      go_wp2_with fail
      refine (P1.out _ hB0).mono ?_
      rintro e w1 ⟨rfl, hb1⟩
      have hB1 := hB0.trans (hb1.mono hB0.size)
      go_wp2_with fail
      refine (P2.out _ hB1).mono ?_
      rintro e w2 ⟨rfl, hb2⟩
      have hB2 := hB1.trans (hb2.mono hB1.size)
      go_wp2_with fail
      refine (P3.out _ hB2).mono ?_
      rintro e w3 ⟨rfl, hb3⟩
      have hB3 := hB2.trans (hb3.mono hB2.size)
      go_wp2_with fail
      refine (P4.out _ hB3).mono ?_
      rintro e w4 ⟨rfl, hb4⟩
      have hB4 := hB3.trans (hb4.mono hB3.size)
      go_wp2_with fail
      refine (P5.out _ hB4).mono ?_
      rintro e w5 ⟨rfl, hb5⟩
      have hB5 := hB4.trans (hb5.mono hB4.size)
      go_wp2_with fail
      refine (P6.out _ hB5).mono ?_
      rintro e w6 ⟨rfl, hb6⟩
      have hB6 := hB5.trans (hb6.mono hB5.size)
      go_wp2_with fail
      go_ret
      exact ⟨rfl, hB6⟩
  · have k7 : (m.length : Int) ≤ (l.length : Int) := by omega
    have k8 : decide (m.length ≤ l.length) = true := by simpa using k6
    rcases x1 with rfl | rfl | rfl <;> rcases x2 with rfl | rfl | rfl <;> rcases x3 with rfl | rfl | rfl <;> first | (exfalso; omega) | skip
    all_goals
      clear e2 e3 k5 k6
      go_enter Try.func3, Try.ntmps3
      go_wp2_with fail
      refine (P1.out _ hB0).mono ?_
      rintro e w1 ⟨rfl, hb1⟩
      have hB1 := hB0.trans (hb1.mono hB0.size)
      go_wp2_with fail
      refine (P2.out _ hB1).mono ?_
      rintro e w2 ⟨rfl, hb2⟩
      have hB2 := hB1.trans (hb2.mono hB1.size)
      go_wp2_with fail
      refine (P3.out _ hB2).mono ?_
      rintro e w3 ⟨rfl, hb3⟩
      have hB3 := hB2.trans (hb3.mono hB2.size)
      go_wp2_with fail
      refine (P4.out _ hB3).mono ?_
      rintro e w4 ⟨rfl, hb4⟩
      have hB4 := hB3.trans (hb4.mono hB3.size)
      go_wp2_with fail
      refine (P5.out _ hB4).mono ?_
      rintro e w5 ⟨rfl, hb5⟩
      have hB5 := hB4.trans (hb5.mono hB4.size)
      go_wp2_with fail
      refine (P6.out _ hB5).mono ?_
      rintro e w6 ⟨rfl, hb6⟩
      have hB6 := hB5.trans (hb6.mono hB5.size)
      go_wp2_with fail
      refine (P4.out _ hB6).mono ?_
      rintro e w7 ⟨rfl, hb7⟩
      have hB7 := hB6.trans (hb7.mono hB6.size)
      go_wp2_with fail
      go_ret
      exact ⟨rfl, hB7⟩
end Go.Proofs.Ytoddjofckbfkhaa.Wy
