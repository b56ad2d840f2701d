/- The walks of way.Join and of the document's Join. -/
import Derived.Test.YtoddjofckbfkhaaDoorRightW
import Derived.Test.YtoddjofckbfkhaaDoorUpW
namespace Go.Proofs.YtoddjofckbfkhaaDoor.Wy
open Go.RowKit Mem Ops Ut
def joinW (l m : List St) : List St := if rightW (l ++ m) = 0 then l ++ m else []
/-- What Join gives. -/
def JoinTo (l m : List St) (w : World) (e : Ending) (w' : World) : Prop :=
  ∃ a n c, e = .returned (.tuple #[.slice a n c, .int .i64 (rightW (l ++ m))]) ∧ n = (joinW l m).length ∧ Sts w' a (joinW l m) ∧ Below w.heap.size w w'
theorem sts_two {w : World} {a : Option Addr} {l m : List St} (h : Row w a ([] ++ l.flatMap St.cells ++ m.flatMap St.cells)) : Sts w a (l ++ m) := by
  unfold Sts
  rw [List.flatMap_append]
  exact h
theorem join_end {w : World} {l m : List St} {e : Ending} {w' : World} {r : Int} (h : rightW (l ++ m) = r) :
    (r = 0 → (∃ a n c, e = .returned (.tuple #[.slice a n c, .int .i64 0]) ∧ n = (l ++ m).length ∧ Sts w' a (l ++ m) ∧ Below w.heap.size w w') → JoinTo l m w e w') ∧
    (¬ r = 0 → (e = .returned (.tuple #[.slice none 0 0, .int .i64 r]) ∧ Below w.heap.size w w') → JoinTo l m w e w') := by
  subst h
  refine ⟨fun h0 => ?_, fun h0 => ?_⟩
  · rintro ⟨a, n, c, rfl, hn, hs, hb⟩
    refine ⟨a, n, c, by rw [h0], ?_, ?_, hb⟩
    · rw [joinW, if_pos h0]; exact hn
    · rw [joinW, if_pos h0]; exact hs
  · rintro ⟨rfl, hb⟩
    refine ⟨none, 0, 0, rfl, ?_, ?_, hb⟩
    · rw [joinW, if_neg h0]; rfl
    · rw [joinW, if_neg h0]; exact .inl rfl
set_option maxRecDepth 100000 in
set_option maxHeartbeats 1000000 in
theorem join_calls (a a0 : Option Addr) (l m : List St) (n n0 cap cap0 : Nat) (w : World) (hn : n = l.length) (hn0 : n0 = m.length) (hl : l.length * 32 + m.length * 32 ≤ 140737488355328) (hK : KeysOk (l ++ m)) (hT : Tabs w) (hH : Sts w a l) (hH0 : Sts w a0 m) :
    Calls Tryd.prog 12 #[.slice a n cap, .slice a0 n0 cap0] w (JoinTo l m w) := by
  subst hn
  subst hn0
  have hB0 := Below.refl w.heap.size w
  have hN := World.ownsRow_nil w w.heap.size 59 3
  have q1 : (0 + l.length) * 32 ≤ 140737488355328 := by omega
  have q2 : (0 + l.length + m.length) * 32 ≤ 140737488355328 := by omega
  have LF := Lib.hid (length_flat l)
  have LF0 := Lib.hid (length_flat m)
  have hHr : Row w a (l.flatMap St.cells) := hH
  have HH0 := Lib.hid hH0
  have RC := Lib.hid (fun (w2 : World) (a2 : Option Addr) (c2 : Nat) (hB2 : Below w.heap.size w w2) (hR2 : Row w2 a2 ([] ++ l.flatMap St.cells ++ m.flatMap St.cells)) => right_calls a2 (l ++ m) (l.length + m.length) c2 w2 (by simp) (by simp; omega) hK (hT.below hB2) (sts_two hR2))
  have RB := Lib.hid (fun (w2 : World) (a2 : Option Addr) (hR2 : Row w2 a2 ([] ++ l.flatMap St.cells ++ m.flatMap St.cells)) => sts_two hR2)
  have ST := Lib.hid (fun (r : Int) (h : rightW (l ++ m) = r) (e : Ending) (w' : World) => join_end (w := w) (e := e) (w' := w') h)
  obtain ⟨r, hr⟩ : ∃ r, rightW (l ++ m) = r := ⟨_, rfl⟩
  rw [hr] at RC
  have HR := Lib.hid hr
  clear hr hH hH0 hK hT
  by_cases h0 : r = 0
  · subst h0
    go_enter Tryd.func12, Tryd.ntmps12
    go_wp2_with (first | ((with_reducible refine pl_append (c := cap) w.heap.size Tryd.underlying22 el29 hN LF.out hHr (one_sts l) q1 hB0 (Nat.le_refl _) ?_ ?_ ?_ ?_); (· rfl); (· rfl); (· rfl); intro v1 w1 hO1 hB1 _ _; have hz1 := hB1.size; have hHr0 : Row w1 a0 (m.flatMap St.cells) := (HH0.out.below hB1)) | ((with_reducible refine pl_append (c := cap0) w.heap.size Tryd.underlying22 el29 hO1 LF0.out hHr0 (one_sts m) q2 hB1 hz1 ?_ ?_ ?_ ?_); (· rfl); (· rfl); (· rfl); intro v2 w2 hO2 hB2 _ _; rw [Nat.zero_add] at hO2; obtain ⟨a2, c2, rfl, _, _, hR2, _⟩ := own_row hO2; clear hO1 hO2 hN) | (go_at_call 17; refine (RC.out _ _ _ hB2 hR2).mono ?_; rintro e w3 ⟨rfl, hb3⟩))
    go_ret2
    exact (ST.out 0 HR.out _ _).1 rfl ⟨a2, _, c2, rfl, by simp, (RB.out _ _ hR2).below hb3, hB2.trans (hb3.mono hB2.size)⟩
  · have p0 : (r != 0) = true := by simpa using h0
    have HN := Lib.hid h0
    clear h0
    go_enter Tryd.func12, Tryd.ntmps12
    go_wp2_with (first | ((with_reducible refine pl_append (c := cap) w.heap.size Tryd.underlying22 el29 hN LF.out hHr (one_sts l) q1 hB0 (Nat.le_refl _) ?_ ?_ ?_ ?_); (· rfl); (· rfl); (· rfl); intro v1 w1 hO1 hB1 _ _; have hz1 := hB1.size; have hHr0 : Row w1 a0 (m.flatMap St.cells) := (HH0.out.below hB1)) | ((with_reducible refine pl_append (c := cap0) w.heap.size Tryd.underlying22 el29 hO1 LF0.out hHr0 (one_sts m) q2 hB1 hz1 ?_ ?_ ?_ ?_); (· rfl); (· rfl); (· rfl); intro v2 w2 hO2 hB2 _ _; rw [Nat.zero_add] at hO2; obtain ⟨a2, c2, rfl, _, _, hR2, _⟩ := own_row hO2; clear hO1 hO2 hN) | (go_at_call 17; refine (RC.out _ _ _ hB2 hR2).mono ?_; rintro e w3 ⟨rfl, hb3⟩))
    go_ret2
    exact (ST.out r HR.out _ _).2 HN.out ⟨rfl, hB2.trans (hb3.mono hB2.size)⟩
set_option maxRecDepth 100000 in
set_option maxHeartbeats 1000000 in
theorem joinRef_calls (a a0 : Option Addr) (l m : List St) (n n0 cap cap0 : Nat) (w : World) (hn : n = l.length) (hn0 : n0 = m.length) (hl : l.length * 32 + m.length * 32 ≤ 140737488355328) (hK : KeysOk (l ++ m)) (hH : Sts w a l) (hH0 : Sts w a0 m) :
    Calls Tryd.prog 13 #[.slice a n cap, .slice a0 n0 cap0] w (JoinTo l m w) := by
  subst hn
  subst hn0
  have hB0 := Below.refl w.heap.size w
  have hN := World.ownsRow_nil w w.heap.size 59 3
  have q1 : (0 + l.length) * 32 ≤ 140737488355328 := by omega
  have q2 : (0 + l.length + m.length) * 32 ≤ 140737488355328 := by omega
  have LF := Lib.hid (length_flat l)
  have LF0 := Lib.hid (length_flat m)
  have hHr : Row w a (l.flatMap St.cells) := hH
  have HH0 := Lib.hid hH0
  have RC := Lib.hid (fun (w2 : World) (a2 : Option Addr) (c2 : Nat) (hB2 : Below w.heap.size w w2) (hR2 : Row w2 a2 ([] ++ l.flatMap St.cells ++ m.flatMap St.cells)) => rightRef_calls a2 (l ++ m) (l.length + m.length) c2 w2 (by simp) (by simp; omega) hK (sts_two hR2))
  have RB := Lib.hid (fun (w2 : World) (a2 : Option Addr) (hR2 : Row w2 a2 ([] ++ l.flatMap St.cells ++ m.flatMap St.cells)) => sts_two hR2)
  have ST := Lib.hid (fun (r : Int) (h : rightW (l ++ m) = r) (e : Ending) (w' : World) => join_end (w := w) (e := e) (w' := w') h)
  obtain ⟨r, hr⟩ : ∃ r, rightW (l ++ m) = r := ⟨_, rfl⟩
  rw [hr] at RC
  have HR := Lib.hid hr
  clear hr hH hH0 hK
  by_cases h0 : r = 0
  · subst h0
    go_enter Tryd.func13, Tryd.ntmps13
    go_wp2_with (first | ((with_reducible refine pl_append (c := cap) w.heap.size Tryd.underlying22 el29 hN LF.out hHr (one_sts l) q1 hB0 (Nat.le_refl _) ?_ ?_ ?_ ?_); (· rfl); (· rfl); (· rfl); intro v1 w1 hO1 hB1 _ _; have hz1 := hB1.size; have hHr0 : Row w1 a0 (m.flatMap St.cells) := (HH0.out.below hB1)) | ((with_reducible refine pl_append (c := cap0) w.heap.size Tryd.underlying22 el29 hO1 LF0.out hHr0 (one_sts m) q2 hB1 hz1 ?_ ?_ ?_ ?_); (· rfl); (· rfl); (· rfl); intro v2 w2 hO2 hB2 _ _; rw [Nat.zero_add] at hO2; obtain ⟨a2, c2, rfl, _, _, hR2, _⟩ := own_row hO2; clear hO1 hO2 hN) | (go_at_call 16; refine (RC.out _ _ _ hB2 hR2).mono ?_; rintro e w3 ⟨rfl, hb3⟩))
    go_ret2
    exact (ST.out 0 HR.out _ _).1 rfl ⟨a2, _, c2, rfl, by simp, (RB.out _ _ hR2).below hb3, hB2.trans (hb3.mono hB2.size)⟩
  · have p0 : (r != 0) = true := by simpa using h0
    have HN := Lib.hid h0
    clear h0
    go_enter Tryd.func13, Tryd.ntmps13
    go_wp2_with (first | ((with_reducible refine pl_append (c := cap) w.heap.size Tryd.underlying22 el29 hN LF.out hHr (one_sts l) q1 hB0 (Nat.le_refl _) ?_ ?_ ?_ ?_); (· rfl); (· rfl); (· rfl); intro v1 w1 hO1 hB1 _ _; have hz1 := hB1.size; have hHr0 : Row w1 a0 (m.flatMap St.cells) := (HH0.out.below hB1)) | ((with_reducible refine pl_append (c := cap0) w.heap.size Tryd.underlying22 el29 hO1 LF0.out hHr0 (one_sts m) q2 hB1 hz1 ?_ ?_ ?_ ?_); (· rfl); (· rfl); (· rfl); intro v2 w2 hO2 hB2 _ _; rw [Nat.zero_add] at hO2; obtain ⟨a2, c2, rfl, _, _, hR2, _⟩ := own_row hO2; clear hO1 hO2 hN) | (go_at_call 16; refine (RC.out _ _ _ hB2 hR2).mono ?_; rintro e w3 ⟨rfl, hb3⟩))
    go_ret2
    exact (ST.out r HR.out _ _).2 HN.out ⟨rfl, hB2.trans (hb3.mono hB2.size)⟩
end Go.Proofs.YtoddjofckbfkhaaDoor.Wy
