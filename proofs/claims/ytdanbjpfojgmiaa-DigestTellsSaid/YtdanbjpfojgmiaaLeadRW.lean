/- The walk of estuaryref01.Lead. -/
import Derived.Test.YtdanbjpfojgmiaaLeadX
import Derived.Test.YtdanbjpfojgmiaaBkW
namespace Go.Proofs.Ytdanbjpfojgmiaa.Dg
open Go.RowKit Mem Ops
attribute [local irreducible] wpQuiet wpAnyH

theorem short_eq {h g : List UInt8} (hh : h.length = 32) (hg : g.length = 32) {t : Nat} (ht : t < 64) (r : Bool) (hr : decide (t ≤ lcp (hexL h) (hexL g)) = r) :
    (((⟨(shortR h (t : Int)).toArray⟩ : ByteArray).toList == (⟨(shortR g (t : Int)).toArray⟩ : ByteArray).toList)) = r := by
  subst hr
  rw [Bool.eq_iff_iff, beq_iff_eq, decide_eq_true_eq, ByteArray.toList_mk, ByteArray.toList_mk, shortR, shortR, show (min (max (t : Int) 0) 64).toNat = t from by omega]
  exact take_lcp _ _ _ (by rw [length_hexL, hh]; omega) (by rw [length_hexL, hg]; omega)

set_option maxRecDepth 100000 in
set_option maxHeartbeats 4000000 in
theorem leadRef_calls (a : Option Addr) (l : List (List UInt8)) (n cap : Nat) (w : World) (hn : n = l.length) (hl : l.length ≤ 140737488351232) (hH : Hs w a l) :
    Calls Try.prog 21 #[.slice a n cap] w fun e w' => e = .returned (.int .i64 (leadR l : Nat)) ∧ Below w.heap.size w w' := by
  subst hn
  generalize hR : leadR l = R
  have HR : Hid (leadI (l.take 0) (l.drop 0) 0 = R) := Lib.hid hR
  clear hR
  go_enter Try.func21, Try.ntmps21
  go_wp2
  go_loopw [3, 4] (fun v i wr => ∃ k n : Nat, k ≤ l.length ∧ i = .int .i64 k ∧ v = .int .i64 n ∧ n ≤ 64 ∧ Below w.heap.size w wr ∧ Hid (leadI (l.take k) (l.drop k) n = R)) (fun _ i _ => l.length - (intOf i).toNat)
  case atStart => exact ⟨0, 0, Nat.zero_le _, rfl, rfl, by omega, Below.refl _ _, HR⟩
  case round =>
    clear HR
    obtain ⟨k, n, hk, rfl, rfl, hn, hbel, hr⟩ := hrel
    by_cases hlt : k < l.length
    · obtain ⟨b, off, rfl, hb, hc⟩ := hH.addr (by omega)
      have hck := hc k hlt
      have hhl := hH.len hlt
      have hR := hr.out
      rw [leadI_step l hlt] at hR
      have HR := Lib.hid hR
      clear hr hR
      generalize l.getD k [] = h at *
      go_wp2
      go_loopw [3, 5] (fun v i wr => ∃ j m : Nat, j ≤ k ∧ i = .int .i64 j ∧ v = .int .i64 m ∧ m ≤ 64 ∧ Below w.heap.size w wr ∧ Hid (leadI (l.take (k + 1)) (l.drop (k + 1)) (leadJ h ((l.take k).drop j) m) = R)) (fun _ i _ => k - (intOf i).toNat)
      case atStart => exact ⟨0, n, Nat.zero_le _, rfl, rfl, hn, hbel, HR⟩
      case round =>
        clear HR hbel hn
        obtain ⟨j, m, hj, rfl, rfl, hm, hbel, hr⟩ := hrel
        by_cases hjk : j < k
        · have hjl : j < l.length := by omega
          have hcj := hc j hjl
          have hgl := hH.len hjl
          have hR := hr.out
          rw [take_drop_cons l hjk hk, leadJ] at hR
          clear hr
          generalize l.getD j [] = g at *
          generalize hT : (if h = g then m else max m (lcp (hexL h) (hexL g) + 1)) = T at *
          have HR := Lib.hid hR
          have HT := Lib.hid hT
          clear hR hT
          go_wp2
          go_loopw [3] (fun v wr => ∃ t : Nat, v = .int .i64 t ∧ Hid (m ≤ t ∧ t ≤ T) ∧ Below w.heap.size w wr) (fun v _ => T - (intOf v).toNat)
          case atStart =>
            refine ⟨m, rfl, Lib.hid ⟨Nat.le_refl _, ?_⟩, hbel⟩
            rw [← HT.out]; split <;> omega
          case round =>
            clear hbel
            obtain ⟨t, rfl, ht, hbel⟩ := hrel
            have hrk := rangeAt_below hck hbel hb
            have hrj := rangeAt_below hcj hbel hb
            have hws := hbel.size
            have lbw := Nat.lt_of_lt_of_le hb hws
            have tb := ht.out
            by_cases hgh : h = g
            · have hne : (!(h == g)) = false := by simp [hgh]
              obtain rfl : t = T := by have := HT.out; rw [if_pos hgh] at this; omega
              have h64 : t ≤ 64 := by have := HT.out; rw [if_pos hgh] at this; omega
              go_wp2
              refine region_grown (by kernel_rfl) (by kernel_rfl) ?_
              refine qs_move (v := (.slice (some ⟨b, off, none⟩) l.length cap)) (by kernel_rfl) (by kernel_rfl) ?_
              refine qs_move (v := (.int .i64 (k : Int))) (by kernel_rfl) (by kernel_rfl) ?_
              refine qs_index sl38 (b := b) (off := off) (len := l.length) (cap := cap) (k := .i64) k (by kernel_rfl) (by kernel_rfl) (by kernel_rfl) hlt ?_
              refine qs_load_range (b := b) (o := off + k * 32) (h := h) arr27 hrk lbw hhl (by kernel_rfl) (by kernel_rfl) ?_
              refine qs_move (v := (.slice (some ⟨b, off, none⟩) l.length cap)) (by kernel_rfl) (by kernel_rfl) ?_
              refine qs_move (v := (.int .i64 (j : Int))) (by kernel_rfl) (by kernel_rfl) ?_
              refine qs_index sl38 (b := b) (off := off) (len := l.length) (cap := cap) (k := .i64) j (by kernel_rfl) (by kernel_rfl) (by kernel_rfl) hjl ?_
              refine qs_load_range (b := b) (o := off + j * 32) (h := g) arr27 hrj lbw hgl (by kernel_rfl) (by kernel_rfl) ?_
              refine qs_neq_arr arr27 h g (r := false) hne hhl hgl (by kernel_rfl) (by kernel_rfl) (by kernel_rfl) ?_
              refine qs_move (v := (.bool false)) (by kernel_rfl) (by kernel_rfl) ?_
              refine qs_skip (by kernel_rfl) ?_
              refine qs_skip (by kernel_rfl) ?_
              refine qs_pick (b := false) (v := (.bool false)) (by kernel_rfl) (by kernel_rfl) (by kernel_rfl) ?_
              refine qs_move (v := (.bool false)) (by kernel_rfl) (by kernel_rfl) ?_
              refine qs_skip (by kernel_rfl) ?_
              refine qs_skip (by kernel_rfl) ?_
              refine qs_skip (by kernel_rfl) ?_
              refine qs_skip (by kernel_rfl) ?_
              refine qs_skip (by kernel_rfl) ?_
              refine qs_skip (by kernel_rfl) ?_
              refine qs_skip (by kernel_rfl) ?_
              refine qs_skip (by kernel_rfl) ?_
              refine qs_skip (by kernel_rfl) ?_
              refine qs_skip (by kernel_rfl) ?_
              refine qs_skip (by kernel_rfl) ?_
              refine qs_skip (by kernel_rfl) ?_
              refine qs_skip (by kernel_rfl) ?_
              refine qs_pick (b := false) (v := (.bool false)) (by kernel_rfl) (by kernel_rfl) (by kernel_rfl) ?_
              refine wpQuiet_nil ?_
              intro wq hwq
              simp only [Act.put, Exit.then, List.setIfInBounds_toArray, List.set_cons_succ, List.set_cons_zero]
              go_wp2
              go_roundw
              case rel => exact ⟨j + 1, t, by omega, by go_num, rfl, h64, hbel.trans (hwq.mono hws), HR⟩
              case measure => simp [intOf]; omega
            · have hne : (!(h == g)) = true := by simp [hgh]
              have hT := HT.out
              rw [if_neg hgh] at hT
              have hlc := (lcp_hex hhl hgl hgh).1
              by_cases ht64 : t < 64
              · by_cases hle : t ≤ lcp (hexL h) (hexL g)
                · have heq := short_eq hhl hgl ht64 true (by simpa using hle)
                  have hTt : t + 1 ≤ T := by omega
                  clear hT HT hgh
                  go_wp2
                  refine region_grown (by kernel_rfl) (by kernel_rfl) ?_
                  refine qs_move (v := (.slice (some ⟨b, off, none⟩) l.length cap)) (by kernel_rfl) (by kernel_rfl) ?_
                  refine qs_move (v := (.int .i64 (k : Int))) (by kernel_rfl) (by kernel_rfl) ?_
                  refine qs_index sl38 (b := b) (off := off) (len := l.length) (cap := cap) (k := .i64) k (by kernel_rfl) (by kernel_rfl) (by kernel_rfl) hlt ?_
                  refine qs_load_range (b := b) (o := off + k * 32) (h := h) arr27 hrk lbw hhl (by kernel_rfl) (by kernel_rfl) ?_
                  refine qs_move (v := (.slice (some ⟨b, off, none⟩) l.length cap)) (by kernel_rfl) (by kernel_rfl) ?_
                  refine qs_move (v := (.int .i64 (j : Int))) (by kernel_rfl) (by kernel_rfl) ?_
                  refine qs_index sl38 (b := b) (off := off) (len := l.length) (cap := cap) (k := .i64) j (by kernel_rfl) (by kernel_rfl) (by kernel_rfl) hjl ?_
                  refine qs_load_range (b := b) (o := off + j * 32) (h := g) arr27 hrj lbw hgl (by kernel_rfl) (by kernel_rfl) ?_
                  refine qs_neq_arr arr27 h g (r := true) hne hhl hgl (by kernel_rfl) (by kernel_rfl) (by kernel_rfl) ?_
                  refine qs_move (v := (.bool true)) (by kernel_rfl) (by kernel_rfl) ?_
                  refine qs_move (v := (.int .i64 (t : Int))) (by kernel_rfl) (by kernel_rfl) ?_
                  refine qs_lss_int (k := .i64) (m := (t : Int)) (n := 64) (r := true) (by kernel_rfl) (by kernel_rfl) (by kernel_rfl) (decide_eq_true (by omega)) ?_
                  refine qs_pick (b := true) (v := (.bool true)) (by kernel_rfl) (by kernel_rfl) (by kernel_rfl) ?_
                  refine qs_move (v := (.bool true)) (by kernel_rfl) (by kernel_rfl) ?_
                  refine qs_move (v := (.slice (some ⟨b, off, none⟩) l.length cap)) (by kernel_rfl) (by kernel_rfl) ?_
                  refine qs_move (v := (.int .i64 (k : Int))) (by kernel_rfl) (by kernel_rfl) ?_
                  refine qs_index sl38 (b := b) (off := off) (len := l.length) (cap := cap) (k := .i64) k (by kernel_rfl) (by kernel_rfl) (by kernel_rfl) hlt ?_
                  refine qs_load_range (b := b) (o := off + k * 32) (h := h) arr27 hrk lbw hhl (by kernel_rfl) (by kernel_rfl) ?_
                  refine qs_move (v := (.int .i64 (t : Int))) (by kernel_rfl) (by kernel_rfl) ?_
                  refine qs_call (v := .string ⟨(shortR h (t : Int)).toArray⟩) fn14 (by kernel_rfl) (vs := #[.agg (bytesU h).toArray, .int .i64 (t : Int)]) (by kernel_rfl) (fun w hw => (shortRef_calls h (t : Int) w hhl).mono fun _ _ ⟨he, hb⟩ => ⟨he, hw.next hb⟩) ?_
                  refine qs_move (v := (.slice (some ⟨b, off, none⟩) l.length cap)) (by kernel_rfl) (by kernel_rfl) ?_
                  refine qs_move (v := (.int .i64 (j : Int))) (by kernel_rfl) (by kernel_rfl) ?_
                  refine qs_index sl38 (b := b) (off := off) (len := l.length) (cap := cap) (k := .i64) j (by kernel_rfl) (by kernel_rfl) (by kernel_rfl) hjl ?_
                  refine qs_load_range (b := b) (o := off + j * 32) (h := g) arr27 hrj lbw hgl (by kernel_rfl) (by kernel_rfl) ?_
                  refine qs_move (v := (.int .i64 (t : Int))) (by kernel_rfl) (by kernel_rfl) ?_
                  refine qs_call (v := .string ⟨(shortR g (t : Int)).toArray⟩) fn14 (by kernel_rfl) (vs := #[.agg (bytesU g).toArray, .int .i64 (t : Int)]) (by kernel_rfl) (fun w hw => (shortRef_calls g (t : Int) w hgl).mono fun _ _ ⟨he, hb⟩ => ⟨he, hw.next hb⟩) ?_
                  refine qs_eql_str (s := ⟨(shortR h (t : Int)).toArray⟩) (u := ⟨(shortR g (t : Int)).toArray⟩) (r := true) (by kernel_rfl) (by kernel_rfl) (by kernel_rfl) heq ?_
                  refine qs_pick (b := true) (v := (.bool true)) (by kernel_rfl) (by kernel_rfl) (by kernel_rfl) ?_
                  refine wpQuiet_nil ?_
                  intro wq hwq
                  simp only [Act.put, Exit.then, List.setIfInBounds_toArray, List.set_cons_succ, List.set_cons_zero]
                  go_wp2
                  go_roundw
                  case rel => exact ⟨t + 1, by go_num, Lib.hid ⟨by omega, hTt⟩, hbel.trans (hwq.mono hws)⟩
                  case measure => simp [intOf]; omega
                · have heq := short_eq hhl hgl ht64 false (by simpa using hle)
                  obtain rfl : t = T := by omega
                  clear hT HT hgh
                  go_wp2
                  refine region_grown (by kernel_rfl) (by kernel_rfl) ?_
                  refine qs_move (v := (.slice (some ⟨b, off, none⟩) l.length cap)) (by kernel_rfl) (by kernel_rfl) ?_
                  refine qs_move (v := (.int .i64 (k : Int))) (by kernel_rfl) (by kernel_rfl) ?_
                  refine qs_index sl38 (b := b) (off := off) (len := l.length) (cap := cap) (k := .i64) k (by kernel_rfl) (by kernel_rfl) (by kernel_rfl) hlt ?_
                  refine qs_load_range (b := b) (o := off + k * 32) (h := h) arr27 hrk lbw hhl (by kernel_rfl) (by kernel_rfl) ?_
                  refine qs_move (v := (.slice (some ⟨b, off, none⟩) l.length cap)) (by kernel_rfl) (by kernel_rfl) ?_
                  refine qs_move (v := (.int .i64 (j : Int))) (by kernel_rfl) (by kernel_rfl) ?_
                  refine qs_index sl38 (b := b) (off := off) (len := l.length) (cap := cap) (k := .i64) j (by kernel_rfl) (by kernel_rfl) (by kernel_rfl) hjl ?_
                  refine qs_load_range (b := b) (o := off + j * 32) (h := g) arr27 hrj lbw hgl (by kernel_rfl) (by kernel_rfl) ?_
                  refine qs_neq_arr arr27 h g (r := true) hne hhl hgl (by kernel_rfl) (by kernel_rfl) (by kernel_rfl) ?_
                  refine qs_move (v := (.bool true)) (by kernel_rfl) (by kernel_rfl) ?_
                  refine qs_move (v := (.int .i64 (t : Int))) (by kernel_rfl) (by kernel_rfl) ?_
                  refine qs_lss_int (k := .i64) (m := (t : Int)) (n := 64) (r := true) (by kernel_rfl) (by kernel_rfl) (by kernel_rfl) (decide_eq_true (by omega)) ?_
                  refine qs_pick (b := true) (v := (.bool true)) (by kernel_rfl) (by kernel_rfl) (by kernel_rfl) ?_
                  refine qs_move (v := (.bool true)) (by kernel_rfl) (by kernel_rfl) ?_
                  refine qs_move (v := (.slice (some ⟨b, off, none⟩) l.length cap)) (by kernel_rfl) (by kernel_rfl) ?_
                  refine qs_move (v := (.int .i64 (k : Int))) (by kernel_rfl) (by kernel_rfl) ?_
                  refine qs_index sl38 (b := b) (off := off) (len := l.length) (cap := cap) (k := .i64) k (by kernel_rfl) (by kernel_rfl) (by kernel_rfl) hlt ?_
                  refine qs_load_range (b := b) (o := off + k * 32) (h := h) arr27 hrk lbw hhl (by kernel_rfl) (by kernel_rfl) ?_
                  refine qs_move (v := (.int .i64 (t : Int))) (by kernel_rfl) (by kernel_rfl) ?_
                  refine qs_call (v := .string ⟨(shortR h (t : Int)).toArray⟩) fn14 (by kernel_rfl) (vs := #[.agg (bytesU h).toArray, .int .i64 (t : Int)]) (by kernel_rfl) (fun w hw => (shortRef_calls h (t : Int) w hhl).mono fun _ _ ⟨he, hb⟩ => ⟨he, hw.next hb⟩) ?_
                  refine qs_move (v := (.slice (some ⟨b, off, none⟩) l.length cap)) (by kernel_rfl) (by kernel_rfl) ?_
                  refine qs_move (v := (.int .i64 (j : Int))) (by kernel_rfl) (by kernel_rfl) ?_
                  refine qs_index sl38 (b := b) (off := off) (len := l.length) (cap := cap) (k := .i64) j (by kernel_rfl) (by kernel_rfl) (by kernel_rfl) hjl ?_
                  refine qs_load_range (b := b) (o := off + j * 32) (h := g) arr27 hrj lbw hgl (by kernel_rfl) (by kernel_rfl) ?_
                  refine qs_move (v := (.int .i64 (t : Int))) (by kernel_rfl) (by kernel_rfl) ?_
                  refine qs_call (v := .string ⟨(shortR g (t : Int)).toArray⟩) fn14 (by kernel_rfl) (vs := #[.agg (bytesU g).toArray, .int .i64 (t : Int)]) (by kernel_rfl) (fun w hw => (shortRef_calls g (t : Int) w hgl).mono fun _ _ ⟨he, hb⟩ => ⟨he, hw.next hb⟩) ?_
                  refine qs_eql_str (s := ⟨(shortR h (t : Int)).toArray⟩) (u := ⟨(shortR g (t : Int)).toArray⟩) (r := false) (by kernel_rfl) (by kernel_rfl) (by kernel_rfl) heq ?_
                  refine qs_pick (b := true) (v := (.bool false)) (by kernel_rfl) (by kernel_rfl) (by kernel_rfl) ?_
                  refine wpQuiet_nil ?_
                  intro wq hwq
                  simp only [Act.put, Exit.then, List.setIfInBounds_toArray, List.set_cons_succ, List.set_cons_zero]
                  go_wp2
                  go_roundw
                  case rel => exact ⟨j + 1, t, by omega, by go_num, rfl, by omega, hbel.trans (hwq.mono hws), HR⟩
                  case measure => simp [intOf]; omega
              · obtain rfl : t = T := by omega
                have h64 : t ≤ 64 := by omega
                clear hT HT hgh
                go_wp2
                refine region_grown (by kernel_rfl) (by kernel_rfl) ?_
                refine qs_move (v := (.slice (some ⟨b, off, none⟩) l.length cap)) (by kernel_rfl) (by kernel_rfl) ?_
                refine qs_move (v := (.int .i64 (k : Int))) (by kernel_rfl) (by kernel_rfl) ?_
                refine qs_index sl38 (b := b) (off := off) (len := l.length) (cap := cap) (k := .i64) k (by kernel_rfl) (by kernel_rfl) (by kernel_rfl) hlt ?_
                refine qs_load_range (b := b) (o := off + k * 32) (h := h) arr27 hrk lbw hhl (by kernel_rfl) (by kernel_rfl) ?_
                refine qs_move (v := (.slice (some ⟨b, off, none⟩) l.length cap)) (by kernel_rfl) (by kernel_rfl) ?_
                refine qs_move (v := (.int .i64 (j : Int))) (by kernel_rfl) (by kernel_rfl) ?_
                refine qs_index sl38 (b := b) (off := off) (len := l.length) (cap := cap) (k := .i64) j (by kernel_rfl) (by kernel_rfl) (by kernel_rfl) hjl ?_
                refine qs_load_range (b := b) (o := off + j * 32) (h := g) arr27 hrj lbw hgl (by kernel_rfl) (by kernel_rfl) ?_
                refine qs_neq_arr arr27 h g (r := true) hne hhl hgl (by kernel_rfl) (by kernel_rfl) (by kernel_rfl) ?_
                refine qs_move (v := (.bool true)) (by kernel_rfl) (by kernel_rfl) ?_
                refine qs_move (v := (.int .i64 (t : Int))) (by kernel_rfl) (by kernel_rfl) ?_
                refine qs_lss_int (k := .i64) (m := (t : Int)) (n := 64) (r := false) (by kernel_rfl) (by kernel_rfl) (by kernel_rfl) (decide_eq_false (by omega)) ?_
                refine qs_pick (b := true) (v := (.bool false)) (by kernel_rfl) (by kernel_rfl) (by kernel_rfl) ?_
                refine qs_move (v := (.bool false)) (by kernel_rfl) (by kernel_rfl) ?_
                refine qs_skip (by kernel_rfl) ?_
                refine qs_skip (by kernel_rfl) ?_
                refine qs_skip (by kernel_rfl) ?_
                refine qs_skip (by kernel_rfl) ?_
                refine qs_skip (by kernel_rfl) ?_
                refine qs_skip (by kernel_rfl) ?_
                refine qs_skip (by kernel_rfl) ?_
                refine qs_skip (by kernel_rfl) ?_
                refine qs_skip (by kernel_rfl) ?_
                refine qs_skip (by kernel_rfl) ?_
                refine qs_skip (by kernel_rfl) ?_
                refine qs_skip (by kernel_rfl) ?_
                refine qs_skip (by kernel_rfl) ?_
                refine qs_pick (b := false) (v := (.bool false)) (by kernel_rfl) (by kernel_rfl) (by kernel_rfl) ?_
                refine wpQuiet_nil ?_
                intro wq hwq
                simp only [Act.put, Exit.then, List.setIfInBounds_toArray, List.set_cons_succ, List.set_cons_zero]
                go_wp2
                go_roundw
                case rel => exact ⟨j + 1, t, by omega, by go_num, rfl, h64, hbel.trans (hwq.mono hws), HR⟩
                case measure => simp [intOf]; omega
        · obtain rfl : j = k := by omega
          have hR := hr.out
          rw [show (l.take j).drop j = [] from List.drop_eq_nil_of_le (by simp; omega), leadJ] at hR
          have HR := Lib.hid hR
          clear hr hR
          go_wp2
          go_roundw
          case rel => exact ⟨j + 1, m, by omega, by go_num, rfl, hm, hbel, HR⟩
          case measure => simp [intOf]; omega
    · obtain rfl : k = l.length := by omega
      have hR := hr.out
      rw [List.drop_length, leadI] at hR
      subst hR
      clear hr
      go_wp2
      go_ret
      exact ⟨rfl, hbel⟩
end Go.Proofs.Ytdanbjpfojgmiaa.Dg
