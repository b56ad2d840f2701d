/- The walks of estuarymem.SameHashes and KeptHashes. -/
import Derived.Test.YtdanbjpfojgmiaaHandW
namespace Go.Proofs.Ytdanbjpfojgmiaa.Dg
open Go.RowKit Mem Ops
attribute [local irreducible] wpQuiet wpAnyH

set_option maxRecDepth 100000 in
set_option maxHeartbeats 4000000 in
theorem same_calls (a a2 : Option Addr) (l : List (List UInt8)) (n m cap cap2 : Nat) (w : World) (hn : n = l.length) (hm : m = l.length) (hl : l.length ≤ 8000000000000) (hH : Hs w a l) (hH2 : Hs w a2 l) :
    Calls Try.prog 28 #[.slice a n cap, .slice a2 m cap2] w fun e w' => e = .returned (.bool true) ∧ Below w.heap.size w w' := by
  subst hn
  subst hm
  go_enter Try.func28, Try.ntmps28
  go_wp2
  go_loopw [5] (fun i wr => ∃ k : Nat, k ≤ l.length ∧ i = .int .i64 k ∧ Below w.heap.size w wr) (fun i _ => l.length - (intOf i).toNat)
  case atStart => exact ⟨0, Nat.zero_le _, rfl, Below.refl _ _⟩
  case round =>
    obtain ⟨k, hk, rfl, hbel⟩ := hrel
    by_cases hlt : k < l.length
    · obtain ⟨b, off, rfl, hb, hc⟩ := hH.addr (by omega)
      obtain ⟨b2, off2, rfl, hb2, hc2⟩ := hH2.addr (by omega)
      have hrk := rangeAt_below (hc k hlt) hbel hb
      have hrk2 := rangeAt_below (hc2 k hlt) hbel hb2
      have hhl := hH.len hlt
      generalize l.getD k [] = h at *
      have hws := hbel.size
      have lb1 := Nat.lt_of_lt_of_le hb hws
      have lb2 := Nat.lt_of_lt_of_le hb2 hws
      have hne : (!(h == h)) = false := by simp
      go_wp2
      refine region_grown (by kernel_rfl) (by kernel_rfl) ?_
      refine qs_move (v := (.slice (some ⟨b, off, none⟩) l.length cap)) (by kernel_rfl) (by kernel_rfl) ?_
      refine qs_move (v := (.int .i64 (k : Int))) (by kernel_rfl) (by kernel_rfl) ?_
      refine qs_index sl38 (b := b) (off := off) (len := l.length) (cap := cap) (k := .i64) k (by kernel_rfl) (by kernel_rfl) (by kernel_rfl) hlt ?_
      refine qs_load_range (b := b) (o := off + k * 32) (h := h) arr27 hrk lb1 hhl (by kernel_rfl) (by kernel_rfl) ?_
      refine qs_move (v := (.slice (some ⟨b2, off2, none⟩) l.length cap2)) (by kernel_rfl) (by kernel_rfl) ?_
      refine qs_move (v := (.int .i64 (k : Int))) (by kernel_rfl) (by kernel_rfl) ?_
      refine qs_index sl38 (b := b2) (off := off2) (len := l.length) (cap := cap2) (k := .i64) k (by kernel_rfl) (by kernel_rfl) (by kernel_rfl) hlt ?_
      refine qs_load_range (b := b2) (o := off2 + k * 32) (h := h) arr27 hrk2 lb2 hhl (by kernel_rfl) (by kernel_rfl) ?_
      refine qs_neq_arr arr27 h h (r := false) hne hhl hhl (by kernel_rfl) (by kernel_rfl) (by kernel_rfl) ?_
      refine wpQuiet_nil ?_
      intro wq hwq
      simp only [Act.put, Exit.then, List.setIfInBounds_toArray, List.set_cons_succ, List.set_cons_zero]
      go_wp2
      go_roundw
      case rel => exact ⟨k + 1, by omega, by go_num, hbel.trans (hwq.mono hws)⟩
      case measure => simp [intOf]; omega
    · obtain rfl : k = l.length := by omega
      go_wp2
      go_ret
      exact ⟨rfl, hbel⟩

set_option maxRecDepth 100000 in
set_option maxHeartbeats 4000000 in
theorem kept_calls (a a2 : Option Addr) (l : List (List UInt8)) (n m cap cap2 : Nat) (w : World) (hn : n = l.length) (hm : m = l.length) (hl : l.length ≤ 8000000000000) (hcap : l.length + 9 ≤ cap) (hH : Hs w a (marked l)) (hH2 : Hs w a2 l) :
    Calls Try.prog 22 #[.slice a n cap, .slice a2 m cap2] w fun e w' => e = .returned (.bool true) ∧ Below w.heap.size w w' := by
  subst hn
  subst hm
  obtain ⟨b, off, rfl, hb, hc⟩ := hH.addr (by rw [length_marked]; omega)
  have hs := same_calls (some ⟨b, off, none⟩) a2 l l.length l.length cap cap2 w rfl rfl hl hH.left hH2
  rw [length_marked] at hc
  have HS := Lib.hid hs
  clear hs
  go_enter Try.func22, Try.ntmps22
  have q0 : (0 : Int) ≤ (l.length : Int) + 9 := by omega
  have q1 : (l.length : Int) + 9 ≤ (cap : Int) := by omega
  go_wp2_with (first | (go_at_call 28; refine HS.out.mono ?_; rintro e w1 ⟨rfl, hb1⟩))
  clear HS
  go_loopw [6] (fun i wr => ∃ k : Nat, (l.length ≤ k ∧ k ≤ l.length + 9) ∧ i = .int .i64 k ∧ Below w.heap.size w wr) (fun i _ => l.length + 9 - (intOf i).toNat)
  case atStart => exact ⟨l.length, ⟨Nat.le_refl _, by omega⟩, rfl, hb1⟩
  case round =>
    clear hb1
    obtain ⟨k, ⟨hk0, hk⟩, rfl, hbel⟩ := hrel
    by_cases hlt : k < l.length + 9
    · have hrk := rangeAt_below (hc k hlt) hbel hb
      rw [marked_ge l hk0 hlt] at hrk
      have hhl := length_mark (k - l.length)
      have hne : (!(mark (k - l.length) == mark (k - l.length))) = false := by simp
      have hbyte : ((k : Int) - (l.length : Int)) = (((k - l.length).toUInt8).toNat : Int) := by simp; omega
      have p0 : (0 : Int) ≤ (k : Int) := by omega
      have p1 : (k : Int) < (l.length : Int) + 9 := by omega
      go_wp2_with (first | ((with_reducible refine pl_load_range (b := b) (o := off + k * 32) arr27 hrk hhl ?_ ?_ ?_); (· rfl); (· rfl)) | ((with_reducible refine pl_build2 (n := 30) (c := 160) (d := (k - l.length).toUInt8) arr27 rfl hbyte ?_ ?_ ?_ ?_); (· rfl); (· rfl); (· rfl)) | ((with_reducible refine pl_neq_arr arr27 (mark (k - l.length)) (mark (k - l.length)) hne hhl hhl ?_ ?_ ?_ ?_); (· rfl); (· rfl); (· rfl)))
      go_roundw
      case rel => exact ⟨k + 1, ⟨by omega, by omega⟩, by go_num, hbel⟩
      case measure => simp [intOf]; omega
    · obtain rfl : k = l.length + 9 := by omega
      go_wp2
      go_ret
      exact ⟨rfl, hbel⟩
end Go.Proofs.Ytdanbjpfojgmiaa.Dg
