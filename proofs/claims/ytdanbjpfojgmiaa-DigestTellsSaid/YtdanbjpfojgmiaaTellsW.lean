/- The walk of estuarylaw01.DigestTells. -/
import Derived.Test.YtdanbjpfojgmiaaLeadP
import Derived.Test.YtdanbjpfojgmiaaLeadW
import Derived.Test.YtdanbjpfojgmiaaLeadRW
namespace Go.Proofs.Ytdanbjpfojgmiaa.Dg
open Go.RowKit Mem Ops
attribute [local irreducible] wpQuiet wpAnyH
theorem extract_mk (L : List UInt8) (j : Nat) : (⟨L.toArray⟩ : ByteArray).extract 0 j = ⟨(L.take j).toArray⟩ := by
  apply ByteArray.ext
  simp [ByteArray.data_extract]
theorem take_eq {h g : List UInt8} (hh : h.length = 32) (hg : g.length = 32) {t : Nat} (ht : t ≤ 64) (r : Bool) (hr : decide (t ≤ lcp (hexL h) (hexL g)) = r) :
    (((⟨((hexL h).take t).toArray⟩ : ByteArray).toList == (⟨((hexL g).take t).toArray⟩ : ByteArray).toList)) = r := by
  subst hr
  rw [Bool.eq_iff_iff, beq_iff_eq, decide_eq_true_eq, ByteArray.toList_mk, ByteArray.toList_mk]
  exact take_lcp _ _ _ (by rw [length_hexL, hh]; omega) (by rw [length_hexL, hg]; omega)

set_option maxRecDepth 100000 in
set_option maxHeartbeats 8000000 in
theorem tells_law (a : Option Addr) (l : List (List UInt8)) (n cap : Nat) (w : World) (hn : n = l.length) (hl : l.length ≤ 140737488351232) (hcap : n ≤ cap) (hH : Hs w a l) :
    Calls Try.prog 7 #[.slice a n cap] w fun e w' => e = .returned (.bool true) ∧ Below w.heap.size w w' := by
  subst hn
  have h64 := leadR_le l hH.2
  have hfl := find_lead l hH.2
  have hlead := lead_calls a l l.length cap w rfl hl hcap hH
  generalize hM : leadR l = M at *
  have HR : Hid (leadI (l.take 0) (l.drop 0) 0 = M) := Lib.hid hM
  have HFL := Lib.hid hfl
  have HLEAD := Lib.hid hlead
  clear hfl hlead hM
  have c1 : ¬ (M : Int) < 0 := by omega
  have c2 : ¬ (64 : Int) < (M : Int) := by omega
  go_enter Try.func7, Try.ntmps7
  go_wp2_with fail
  refine HLEAD.out.mono ?_
  rintro e w1 ⟨rfl, hb1⟩
  clear HLEAD
  go_wp2_with fail
  go_loopw [4, 5, 6] (fun x y i wr => ∃ k m : Nat, k ≤ l.length ∧ i = .int .i64 k ∧ x = .bool (decide (m = 0)) ∧ y = .bool (decide (m = M ∧ 0 < m)) ∧ Below w.heap.size w wr ∧ Hid (leadI (l.take k) (l.drop k) m = M)) (fun _ _ i _ => l.length - (intOf i).toNat)
  case atStart => exact ⟨0, 0, Nat.zero_le _, rfl, rfl, by simp, hb1, HR⟩
  case round =>
    clear HR hb1
    obtain ⟨k, m, hk, rfl, rfl, rfl, hbel, hr⟩ := hrel
    by_cases hlt : k < l.length
    · obtain ⟨b, off, rfl, hb, hc⟩ := hH.addr (by omega)
      have hck := hc k hlt
      have hhl := hH.len hlt
      have hR := hr.out
      rw [leadI_step l hlt] at hR
      have HR := Lib.hid hR
      clear hr hR
      generalize l.getD k [] = h at *
      go_wp2_with fail
      go_loopw [4, 5, 7] (fun x y i wr => ∃ j m : Nat, j ≤ k ∧ i = .int .i64 j ∧ x = .bool (decide (m = 0)) ∧ y = .bool (decide (m = M ∧ 0 < m)) ∧ Below w.heap.size w wr ∧ Hid (leadI (l.take (k + 1)) (l.drop (k + 1)) (leadJ h ((l.take k).drop j) m) = M)) (fun _ _ i _ => k - (intOf i).toNat)
      case atStart => exact ⟨0, m, Nat.zero_le _, rfl, rfl, rfl, hbel, HR⟩
      case round =>
        clear HR hbel
        obtain ⟨j, m, hj, rfl, rfl, rfl, hbel, hr⟩ := hrel
        by_cases hjk : j < k
        · have hjl : j < l.length := by omega
          have hcj := hc j hjl
          have hgl := hH.len hjl
          have hR := hr.out
          rw [take_drop_cons l hjk hk, leadJ] at hR
          clear hr
          generalize l.getD j [] = g at *
          have hrk := rangeAt_below hck hbel hb
          have hrj := rangeAt_below hcj hbel hb
          have hws := hbel.size
          have lbw := Nat.lt_of_lt_of_le hb hws
          by_cases hgh : h = g
          · subst hgh
            have heq : (h == h) = true := by simp
            rw [if_pos rfl] at hR
            have HR := Lib.hid hR
            clear hR
            go_wp2_with fail
            refine region_grown (by kernel_rfl) (by kernel_rfl) ?_
            refine qs_move (v := (.slice (some ⟨b, off, none⟩) l.length cap)) (by kernel_rfl) (by kernel_rfl) ?_
            refine qs_move (v := (.int .i64 (k : Int))) (by kernel_rfl) (by kernel_rfl) ?_
            refine qs_index sl38 (b := b) (off := off) (len := l.length) (cap := cap) (k := .i64) k (by kernel_rfl) (by kernel_rfl) (by kernel_rfl) hlt ?_
            refine qs_load_range (b := b) (o := off + k * 32) (h := h) arr27 hrk lbw hhl (by kernel_rfl) (by kernel_rfl) ?_
            refine qs_move (v := (.slice (some ⟨b, off, none⟩) l.length cap)) (by kernel_rfl) (by kernel_rfl) ?_
            refine qs_move (v := (.int .i64 (j : Int))) (by kernel_rfl) (by kernel_rfl) ?_
            refine qs_index sl38 (b := b) (off := off) (len := l.length) (cap := cap) (k := .i64) j (by kernel_rfl) (by kernel_rfl) (by kernel_rfl) hjl ?_
            refine qs_load_range (b := b) (o := off + j * 32) (h := h) arr27 hrj lbw hgl (by kernel_rfl) (by kernel_rfl) ?_
            refine qs_eql_arr arr27 h h (r := true) heq hhl hgl (by kernel_rfl) (by kernel_rfl) (by kernel_rfl) ?_
            refine wpQuiet_nil ?_
            intro wq hwq
            simp only [Act.put, Exit.then, List.setIfInBounds_toArray, List.set_cons_succ, List.set_cons_zero]
            go_wp2_with fail
            go_roundw
            case rel => exact ⟨j + 1, m, by omega, by go_num, rfl, rfl, hbel.trans (hwq.mono hws), HR⟩
            case measure => simp [intOf]; omega
          · have heq : (h == g) = false := by simp [hgh]
            rw [if_neg hgh] at hR
            have hlc := (lcp_hex hhl hgl hgh).1
            have hge := leadI_ge (l.drop (k + 1)) (l.take (k + 1)) (leadJ h ((l.take k).drop (j + 1)) (max m (lcp (hexL h) (hexL g) + 1)))
            have hge2 := leadJ_ge h ((l.take k).drop (j + 1)) (max m (lcp (hexL h) (hexL g) + 1))
            rw [hR] at hge
            have HR := Lib.hid hR
            have hle : max m (lcp (hexL h) (hexL g) + 1) ≤ M := by omega
            have hf := take_eq hhl hgl h64 false (decide_eq_false (by omega))
            have hsub : IntKind.i64.wrap ((M : Int) - 1) = ((M - 1 : Nat) : Int) := by rw [IntKind.wrap_i64]; omega
            clear hge hge2 hR hgh
            have hx' : decide (max m (lcp (hexL h) (hexL g) + 1) = 0) = false := decide_eq_false (by omega)
            have HX := Lib.hid hx'
            clear hx'
            by_cases hsm : m = M ∧ 0 < m
            · have hd : decide (m = M ∧ 0 < m) = true := decide_eq_true hsm
              have HY := Lib.hid (show decide (max m (lcp (hexL h) (hexL g) + 1) = M ∧ 0 < max m (lcp (hexL h) (hexL g) + 1)) = true from decide_eq_true (by omega))
              rw [hd]
              clear hd hsm
              go_wp2_with fail
              refine region_grown (by kernel_rfl) (by kernel_rfl) ?_
              refine qs_move (v := (.slice (some ⟨b, off, none⟩) l.length cap)) (by kernel_rfl) (by kernel_rfl) ?_
              refine qs_move (v := (.int .i64 (k : Int))) (by kernel_rfl) (by kernel_rfl) ?_
              refine qs_index sl38 (b := b) (off := off) (len := l.length) (cap := cap) (k := .i64) k (by kernel_rfl) (by kernel_rfl) (by kernel_rfl) hlt ?_
              refine qs_load_range (b := b) (o := off + k * 32) (h := h) arr27 hrk lbw hhl (by kernel_rfl) (by kernel_rfl) ?_
              refine qs_move (v := (.slice (some ⟨b, off, none⟩) l.length cap)) (by kernel_rfl) (by kernel_rfl) ?_
              refine qs_move (v := (.int .i64 (j : Int))) (by kernel_rfl) (by kernel_rfl) ?_
              refine qs_index sl38 (b := b) (off := off) (len := l.length) (cap := cap) (k := .i64) j (by kernel_rfl) (by kernel_rfl) (by kernel_rfl) hjl ?_
              refine qs_load_range (b := b) (o := off + j * 32) (h := g) arr27 hrj lbw hgl (by kernel_rfl) (by kernel_rfl) ?_
              refine qs_eql_arr arr27 h g (r := false) heq hhl hgl (by kernel_rfl) (by kernel_rfl) (by kernel_rfl) ?_
              refine wpQuiet_nil ?_
              intro wq hwq
              simp only [Act.put, Exit.then, List.setIfInBounds_toArray, List.set_cons_succ, List.set_cons_zero]
              replace hrk := rangeAt_below hrk hwq lbw
              replace hrj := rangeAt_below hrj hwq lbw
              replace hbel := hbel.trans (hwq.mono hws)
              replace hws := hbel.size
              replace lbw := Nat.lt_of_lt_of_le hb hws
              clear hwq
              go_wp2_with fail
              refine region_grown (by kernel_rfl) (by kernel_rfl) ?_
              refine qs_move (v := (.slice (some ⟨b, off, none⟩) l.length cap)) (by kernel_rfl) (by kernel_rfl) ?_
              refine qs_move (v := (.int .i64 (k : Int))) (by kernel_rfl) (by kernel_rfl) ?_
              refine qs_index sl38 (b := b) (off := off) (len := l.length) (cap := cap) (k := .i64) k (by kernel_rfl) (by kernel_rfl) (by kernel_rfl) hlt ?_
              refine qs_load_range (b := b) (o := off + k * 32) (h := h) arr27 hrk lbw hhl (by kernel_rfl) (by kernel_rfl) ?_
              refine qs_call (v := .string ⟨(hexL h).toArray⟩) fn9 (by kernel_rfl) (vs := #[.agg (bytesU h).toArray]) (by kernel_rfl) (fun w hw => (hex_calls h w hhl).mono fun _ _ ⟨he, hb⟩ => ⟨he, hw.next hb⟩) ?_
              refine qs_move (v := (.int .i64 (M : Int))) (by kernel_rfl) (by kernel_rfl) ?_
              refine qs_strTo (s := ⟨(hexL h).toArray⟩) (u := ⟨((hexL h).take M).toArray⟩) (j := M) (k := .i64) str9 (by kernel_rfl) (by kernel_rfl) (by kernel_rfl) (by rw [size_mk, length_hexL, hhl]; omega) (extract_mk _ _) ?_
              refine qs_move (v := (.slice (some ⟨b, off, none⟩) l.length cap)) (by kernel_rfl) (by kernel_rfl) ?_
              refine qs_move (v := (.int .i64 (j : Int))) (by kernel_rfl) (by kernel_rfl) ?_
              refine qs_index sl38 (b := b) (off := off) (len := l.length) (cap := cap) (k := .i64) j (by kernel_rfl) (by kernel_rfl) (by kernel_rfl) hjl ?_
              refine qs_load_range (b := b) (o := off + j * 32) (h := g) arr27 hrj lbw hgl (by kernel_rfl) (by kernel_rfl) ?_
              refine qs_call (v := .string ⟨(hexL g).toArray⟩) fn9 (by kernel_rfl) (vs := #[.agg (bytesU g).toArray]) (by kernel_rfl) (fun w hw => (hex_calls g w hgl).mono fun _ _ ⟨he, hb⟩ => ⟨he, hw.next hb⟩) ?_
              refine qs_move (v := (.int .i64 (M : Int))) (by kernel_rfl) (by kernel_rfl) ?_
              refine qs_strTo (s := ⟨(hexL g).toArray⟩) (u := ⟨((hexL g).take M).toArray⟩) (j := M) (k := .i64) str9 (by kernel_rfl) (by kernel_rfl) (by kernel_rfl) (by rw [size_mk, length_hexL, hgl]; omega) (extract_mk _ _) ?_
              refine qs_eql_str (s := ⟨((hexL h).take M).toArray⟩) (u := ⟨((hexL g).take M).toArray⟩) (r := false) (by kernel_rfl) (by kernel_rfl) (by kernel_rfl) hf ?_
              refine wpQuiet_nil ?_
              intro wq hwq
              simp only [Act.put, Exit.then, List.setIfInBounds_toArray, List.set_cons_succ, List.set_cons_zero]
              replace hrk := rangeAt_below hrk hwq lbw
              replace hrj := rangeAt_below hrj hwq lbw
              replace hbel := hbel.trans (hwq.mono hws)
              replace hws := hbel.size
              replace lbw := Nat.lt_of_lt_of_le hb hws
              clear hwq
              go_wp2_with fail
              refine region_grown (by kernel_rfl) (by kernel_rfl) ?_
              refine qs_move (v := (.bool true)) (by kernel_rfl) (by kernel_rfl) ?_
              refine qs_move (v := (.bool true)) (by kernel_rfl) (by kernel_rfl) ?_
              refine qs_skip (by kernel_rfl) ?_
              refine qs_skip (by kernel_rfl) ?_
              refine qs_skip (by kernel_rfl) ?_
              refine qs_skip (by kernel_rfl) ?_
              refine qs_skip (by kernel_rfl) ?_
              refine qs_skip (by kernel_rfl) ?_
              refine qs_skip (by kernel_rfl) ?_
              refine qs_skip (by kernel_rfl) ?_
              refine qs_skip (by kernel_rfl) ?_
              refine qs_skip (by kernel_rfl) ?_
              refine qs_skip (by kernel_rfl) ?_
              refine qs_skip (by kernel_rfl) ?_
              refine qs_skip (by kernel_rfl) ?_
              refine qs_skip (by kernel_rfl) ?_
              refine qs_skip (by kernel_rfl) ?_
              refine qs_skip (by kernel_rfl) ?_
              refine qs_skip (by kernel_rfl) ?_
              refine qs_skip (by kernel_rfl) ?_
              refine qs_skip (by kernel_rfl) ?_
              refine qs_skip (by kernel_rfl) ?_
              refine qs_skip (by kernel_rfl) ?_
              refine qs_pick (b := true) (v := (.bool true)) (by kernel_rfl) (by kernel_rfl) (by kernel_rfl) ?_
              refine qs_assign (v := (.bool true)) (by kernel_rfl) (by kernel_rfl) ?_
              refine wpQuiet_nil ?_
              intro wq hwq
              simp only [Act.put, List.setIfInBounds_toArray, List.set_cons_succ, List.set_cons_zero]
              replace hbel := hbel.trans (hwq.mono hws)
              clear hwq
              go_wp2_with fail
              go_roundw
              case rel => exact ⟨j + 1, _, by omega, by go_num, by rw [HX.out], by rw [HY.out], hbel, HR⟩
              case measure => simp [intOf]; omega
            · have hd : decide (m = M ∧ 0 < m) = false := decide_eq_false hsm
              rw [hd]
              by_cases hle2 : M - 1 ≤ lcp (hexL h) (hexL g)
              · have HY := Lib.hid (show decide (max m (lcp (hexL h) (hexL g) + 1) = M ∧ 0 < max m (lcp (hexL h) (hexL g) + 1)) = true from decide_eq_true (by omega))
                have hs := take_eq hhl hgl (show M - 1 ≤ 64 by omega) true (decide_eq_true hle2)
                clear hd hsm hle2
                go_wp2_with fail
                refine region_grown (by kernel_rfl) (by kernel_rfl) ?_
                refine qs_move (v := (.slice (some ⟨b, off, none⟩) l.length cap)) (by kernel_rfl) (by kernel_rfl) ?_
                refine qs_move (v := (.int .i64 (k : Int))) (by kernel_rfl) (by kernel_rfl) ?_
                refine qs_index sl38 (b := b) (off := off) (len := l.length) (cap := cap) (k := .i64) k (by kernel_rfl) (by kernel_rfl) (by kernel_rfl) hlt ?_
                refine qs_load_range (b := b) (o := off + k * 32) (h := h) arr27 hrk lbw hhl (by kernel_rfl) (by kernel_rfl) ?_
                refine qs_move (v := (.slice (some ⟨b, off, none⟩) l.length cap)) (by kernel_rfl) (by kernel_rfl) ?_
                refine qs_move (v := (.int .i64 (j : Int))) (by kernel_rfl) (by kernel_rfl) ?_
                refine qs_index sl38 (b := b) (off := off) (len := l.length) (cap := cap) (k := .i64) j (by kernel_rfl) (by kernel_rfl) (by kernel_rfl) hjl ?_
                refine qs_load_range (b := b) (o := off + j * 32) (h := g) arr27 hrj lbw hgl (by kernel_rfl) (by kernel_rfl) ?_
                refine qs_eql_arr arr27 h g (r := false) heq hhl hgl (by kernel_rfl) (by kernel_rfl) (by kernel_rfl) ?_
                refine wpQuiet_nil ?_
                intro wq hwq
                simp only [Act.put, Exit.then, List.setIfInBounds_toArray, List.set_cons_succ, List.set_cons_zero]
                replace hrk := rangeAt_below hrk hwq lbw
                replace hrj := rangeAt_below hrj hwq lbw
                replace hbel := hbel.trans (hwq.mono hws)
                replace hws := hbel.size
                replace lbw := Nat.lt_of_lt_of_le hb hws
                clear hwq
                go_wp2_with fail
                refine region_grown (by kernel_rfl) (by kernel_rfl) ?_
                refine qs_move (v := (.slice (some ⟨b, off, none⟩) l.length cap)) (by kernel_rfl) (by kernel_rfl) ?_
                refine qs_move (v := (.int .i64 (k : Int))) (by kernel_rfl) (by kernel_rfl) ?_
                refine qs_index sl38 (b := b) (off := off) (len := l.length) (cap := cap) (k := .i64) k (by kernel_rfl) (by kernel_rfl) (by kernel_rfl) hlt ?_
                refine qs_load_range (b := b) (o := off + k * 32) (h := h) arr27 hrk lbw hhl (by kernel_rfl) (by kernel_rfl) ?_
                refine qs_call (v := .string ⟨(hexL h).toArray⟩) fn9 (by kernel_rfl) (vs := #[.agg (bytesU h).toArray]) (by kernel_rfl) (fun w hw => (hex_calls h w hhl).mono fun _ _ ⟨he, hb⟩ => ⟨he, hw.next hb⟩) ?_
                refine qs_move (v := (.int .i64 (M : Int))) (by kernel_rfl) (by kernel_rfl) ?_
                refine qs_strTo (s := ⟨(hexL h).toArray⟩) (u := ⟨((hexL h).take M).toArray⟩) (j := M) (k := .i64) str9 (by kernel_rfl) (by kernel_rfl) (by kernel_rfl) (by rw [size_mk, length_hexL, hhl]; omega) (extract_mk _ _) ?_
                refine qs_move (v := (.slice (some ⟨b, off, none⟩) l.length cap)) (by kernel_rfl) (by kernel_rfl) ?_
                refine qs_move (v := (.int .i64 (j : Int))) (by kernel_rfl) (by kernel_rfl) ?_
                refine qs_index sl38 (b := b) (off := off) (len := l.length) (cap := cap) (k := .i64) j (by kernel_rfl) (by kernel_rfl) (by kernel_rfl) hjl ?_
                refine qs_load_range (b := b) (o := off + j * 32) (h := g) arr27 hrj lbw hgl (by kernel_rfl) (by kernel_rfl) ?_
                refine qs_call (v := .string ⟨(hexL g).toArray⟩) fn9 (by kernel_rfl) (vs := #[.agg (bytesU g).toArray]) (by kernel_rfl) (fun w hw => (hex_calls g w hgl).mono fun _ _ ⟨he, hb⟩ => ⟨he, hw.next hb⟩) ?_
                refine qs_move (v := (.int .i64 (M : Int))) (by kernel_rfl) (by kernel_rfl) ?_
                refine qs_strTo (s := ⟨(hexL g).toArray⟩) (u := ⟨((hexL g).take M).toArray⟩) (j := M) (k := .i64) str9 (by kernel_rfl) (by kernel_rfl) (by kernel_rfl) (by rw [size_mk, length_hexL, hgl]; omega) (extract_mk _ _) ?_
                refine qs_eql_str (s := ⟨((hexL h).take M).toArray⟩) (u := ⟨((hexL g).take M).toArray⟩) (r := false) (by kernel_rfl) (by kernel_rfl) (by kernel_rfl) hf ?_
                refine wpQuiet_nil ?_
                intro wq hwq
                simp only [Act.put, Exit.then, List.setIfInBounds_toArray, List.set_cons_succ, List.set_cons_zero]
                replace hrk := rangeAt_below hrk hwq lbw
                replace hrj := rangeAt_below hrj hwq lbw
                replace hbel := hbel.trans (hwq.mono hws)
                replace hws := hbel.size
                replace lbw := Nat.lt_of_lt_of_le hb hws
                clear hwq
                go_wp2_with fail
                refine region_grown (by kernel_rfl) (by kernel_rfl) ?_
                refine qs_move (v := (.bool false)) (by kernel_rfl) (by kernel_rfl) ?_
                refine qs_move (v := (.bool false)) (by kernel_rfl) (by kernel_rfl) ?_
                refine qs_move (v := (.int .i64 (M : Int))) (by kernel_rfl) (by kernel_rfl) ?_
                refine qs_gtr_int (k := .i64) (m := (M : Int)) (n := 0) (r := true) (by kernel_rfl) (by kernel_rfl) (by kernel_rfl) (decide_eq_true (by omega)) ?_
                refine qs_move (v := (.bool true)) (by kernel_rfl) (by kernel_rfl) ?_
                refine qs_move (v := (.slice (some ⟨b, off, none⟩) l.length cap)) (by kernel_rfl) (by kernel_rfl) ?_
                refine qs_move (v := (.int .i64 (k : Int))) (by kernel_rfl) (by kernel_rfl) ?_
                refine qs_index sl38 (b := b) (off := off) (len := l.length) (cap := cap) (k := .i64) k (by kernel_rfl) (by kernel_rfl) (by kernel_rfl) hlt ?_
                refine qs_load_range (b := b) (o := off + k * 32) (h := h) arr27 hrk lbw hhl (by kernel_rfl) (by kernel_rfl) ?_
                refine qs_call (v := .string ⟨(hexL h).toArray⟩) fn9 (by kernel_rfl) (vs := #[.agg (bytesU h).toArray]) (by kernel_rfl) (fun w hw => (hex_calls h w hhl).mono fun _ _ ⟨he, hb⟩ => ⟨he, hw.next hb⟩) ?_
                refine qs_move (v := (.int .i64 (M : Int))) (by kernel_rfl) (by kernel_rfl) ?_
                refine qs_sub (k := .i64) (m := (M : Int)) (n := 1) (r := ((M - 1 : Nat) : Int)) (by kernel_rfl) (by kernel_rfl) (by kernel_rfl) hsub ?_
                refine qs_strTo (s := ⟨(hexL h).toArray⟩) (u := ⟨((hexL h).take (M - 1)).toArray⟩) (j := (M - 1)) (k := .i64) str9 (by kernel_rfl) (by kernel_rfl) (by kernel_rfl) (by rw [size_mk, length_hexL, hhl]; omega) (extract_mk _ _) ?_
                refine qs_move (v := (.slice (some ⟨b, off, none⟩) l.length cap)) (by kernel_rfl) (by kernel_rfl) ?_
                refine qs_move (v := (.int .i64 (j : Int))) (by kernel_rfl) (by kernel_rfl) ?_
                refine qs_index sl38 (b := b) (off := off) (len := l.length) (cap := cap) (k := .i64) j (by kernel_rfl) (by kernel_rfl) (by kernel_rfl) hjl ?_
                refine qs_load_range (b := b) (o := off + j * 32) (h := g) arr27 hrj lbw hgl (by kernel_rfl) (by kernel_rfl) ?_
                refine qs_call (v := .string ⟨(hexL g).toArray⟩) fn9 (by kernel_rfl) (vs := #[.agg (bytesU g).toArray]) (by kernel_rfl) (fun w hw => (hex_calls g w hgl).mono fun _ _ ⟨he, hb⟩ => ⟨he, hw.next hb⟩) ?_
                refine qs_move (v := (.int .i64 (M : Int))) (by kernel_rfl) (by kernel_rfl) ?_
                refine qs_sub (k := .i64) (m := (M : Int)) (n := 1) (r := ((M - 1 : Nat) : Int)) (by kernel_rfl) (by kernel_rfl) (by kernel_rfl) hsub ?_
                refine qs_strTo (s := ⟨(hexL g).toArray⟩) (u := ⟨((hexL g).take (M - 1)).toArray⟩) (j := (M - 1)) (k := .i64) str9 (by kernel_rfl) (by kernel_rfl) (by kernel_rfl) (by rw [size_mk, length_hexL, hgl]; omega) (extract_mk _ _) ?_
                refine qs_eql_str (s := ⟨((hexL h).take (M - 1)).toArray⟩) (u := ⟨((hexL g).take (M - 1)).toArray⟩) (r := true) (by kernel_rfl) (by kernel_rfl) (by kernel_rfl) hs ?_
                refine qs_pick (b := true) (v := (.bool true)) (by kernel_rfl) (by kernel_rfl) (by kernel_rfl) ?_
                refine qs_pick (b := false) (v := (.bool true)) (by kernel_rfl) (by kernel_rfl) (by kernel_rfl) ?_
                refine qs_assign (v := (.bool true)) (by kernel_rfl) (by kernel_rfl) ?_
                refine wpQuiet_nil ?_
                intro wq hwq
                simp only [Act.put, List.setIfInBounds_toArray, List.set_cons_succ, List.set_cons_zero]
                replace hbel := hbel.trans (hwq.mono hws)
                clear hwq
                go_wp2_with fail
                go_roundw
                case rel => exact ⟨j + 1, _, by omega, by go_num, by rw [HX.out], by rw [HY.out], hbel, HR⟩
                case measure => simp [intOf]; omega
              · have HY := Lib.hid (show decide (max m (lcp (hexL h) (hexL g) + 1) = M ∧ 0 < max m (lcp (hexL h) (hexL g) + 1)) = false from decide_eq_false (by omega))
                have hs := take_eq hhl hgl (show M - 1 ≤ 64 by omega) false (decide_eq_false hle2)
                clear hd hsm hle2
                go_wp2_with fail
                refine region_grown (by kernel_rfl) (by kernel_rfl) ?_
                refine qs_move (v := (.slice (some ⟨b, off, none⟩) l.length cap)) (by kernel_rfl) (by kernel_rfl) ?_
                refine qs_move (v := (.int .i64 (k : Int))) (by kernel_rfl) (by kernel_rfl) ?_
                refine qs_index sl38 (b := b) (off := off) (len := l.length) (cap := cap) (k := .i64) k (by kernel_rfl) (by kernel_rfl) (by kernel_rfl) hlt ?_
                refine qs_load_range (b := b) (o := off + k * 32) (h := h) arr27 hrk lbw hhl (by kernel_rfl) (by kernel_rfl) ?_
                refine qs_move (v := (.slice (some ⟨b, off, none⟩) l.length cap)) (by kernel_rfl) (by kernel_rfl) ?_
                refine qs_move (v := (.int .i64 (j : Int))) (by kernel_rfl) (by kernel_rfl) ?_
                refine qs_index sl38 (b := b) (off := off) (len := l.length) (cap := cap) (k := .i64) j (by kernel_rfl) (by kernel_rfl) (by kernel_rfl) hjl ?_
                refine qs_load_range (b := b) (o := off + j * 32) (h := g) arr27 hrj lbw hgl (by kernel_rfl) (by kernel_rfl) ?_
                refine qs_eql_arr arr27 h g (r := false) heq hhl hgl (by kernel_rfl) (by kernel_rfl) (by kernel_rfl) ?_
                refine wpQuiet_nil ?_
                intro wq hwq
                simp only [Act.put, Exit.then, List.setIfInBounds_toArray, List.set_cons_succ, List.set_cons_zero]
                replace hrk := rangeAt_below hrk hwq lbw
                replace hrj := rangeAt_below hrj hwq lbw
                replace hbel := hbel.trans (hwq.mono hws)
                replace hws := hbel.size
                replace lbw := Nat.lt_of_lt_of_le hb hws
                clear hwq
                go_wp2_with fail
                refine region_grown (by kernel_rfl) (by kernel_rfl) ?_
                refine qs_move (v := (.slice (some ⟨b, off, none⟩) l.length cap)) (by kernel_rfl) (by kernel_rfl) ?_
                refine qs_move (v := (.int .i64 (k : Int))) (by kernel_rfl) (by kernel_rfl) ?_
                refine qs_index sl38 (b := b) (off := off) (len := l.length) (cap := cap) (k := .i64) k (by kernel_rfl) (by kernel_rfl) (by kernel_rfl) hlt ?_
                refine qs_load_range (b := b) (o := off + k * 32) (h := h) arr27 hrk lbw hhl (by kernel_rfl) (by kernel_rfl) ?_
                refine qs_call (v := .string ⟨(hexL h).toArray⟩) fn9 (by kernel_rfl) (vs := #[.agg (bytesU h).toArray]) (by kernel_rfl) (fun w hw => (hex_calls h w hhl).mono fun _ _ ⟨he, hb⟩ => ⟨he, hw.next hb⟩) ?_
                refine qs_move (v := (.int .i64 (M : Int))) (by kernel_rfl) (by kernel_rfl) ?_
                refine qs_strTo (s := ⟨(hexL h).toArray⟩) (u := ⟨((hexL h).take M).toArray⟩) (j := M) (k := .i64) str9 (by kernel_rfl) (by kernel_rfl) (by kernel_rfl) (by rw [size_mk, length_hexL, hhl]; omega) (extract_mk _ _) ?_
                refine qs_move (v := (.slice (some ⟨b, off, none⟩) l.length cap)) (by kernel_rfl) (by kernel_rfl) ?_
                refine qs_move (v := (.int .i64 (j : Int))) (by kernel_rfl) (by kernel_rfl) ?_
                refine qs_index sl38 (b := b) (off := off) (len := l.length) (cap := cap) (k := .i64) j (by kernel_rfl) (by kernel_rfl) (by kernel_rfl) hjl ?_
                refine qs_load_range (b := b) (o := off + j * 32) (h := g) arr27 hrj lbw hgl (by kernel_rfl) (by kernel_rfl) ?_
                refine qs_call (v := .string ⟨(hexL g).toArray⟩) fn9 (by kernel_rfl) (vs := #[.agg (bytesU g).toArray]) (by kernel_rfl) (fun w hw => (hex_calls g w hgl).mono fun _ _ ⟨he, hb⟩ => ⟨he, hw.next hb⟩) ?_
                refine qs_move (v := (.int .i64 (M : Int))) (by kernel_rfl) (by kernel_rfl) ?_
                refine qs_strTo (s := ⟨(hexL g).toArray⟩) (u := ⟨((hexL g).take M).toArray⟩) (j := M) (k := .i64) str9 (by kernel_rfl) (by kernel_rfl) (by kernel_rfl) (by rw [size_mk, length_hexL, hgl]; omega) (extract_mk _ _) ?_
                refine qs_eql_str (s := ⟨((hexL h).take M).toArray⟩) (u := ⟨((hexL g).take M).toArray⟩) (r := false) (by kernel_rfl) (by kernel_rfl) (by kernel_rfl) hf ?_
                refine wpQuiet_nil ?_
                intro wq hwq
                simp only [Act.put, Exit.then, List.setIfInBounds_toArray, List.set_cons_succ, List.set_cons_zero]
                replace hrk := rangeAt_below hrk hwq lbw
                replace hrj := rangeAt_below hrj hwq lbw
                replace hbel := hbel.trans (hwq.mono hws)
                replace hws := hbel.size
                replace lbw := Nat.lt_of_lt_of_le hb hws
                clear hwq
                go_wp2_with fail
                refine region_grown (by kernel_rfl) (by kernel_rfl) ?_
                refine qs_move (v := (.bool false)) (by kernel_rfl) (by kernel_rfl) ?_
                refine qs_move (v := (.bool false)) (by kernel_rfl) (by kernel_rfl) ?_
                refine qs_move (v := (.int .i64 (M : Int))) (by kernel_rfl) (by kernel_rfl) ?_
                refine qs_gtr_int (k := .i64) (m := (M : Int)) (n := 0) (r := true) (by kernel_rfl) (by kernel_rfl) (by kernel_rfl) (decide_eq_true (by omega)) ?_
                refine qs_move (v := (.bool true)) (by kernel_rfl) (by kernel_rfl) ?_
                refine qs_move (v := (.slice (some ⟨b, off, none⟩) l.length cap)) (by kernel_rfl) (by kernel_rfl) ?_
                refine qs_move (v := (.int .i64 (k : Int))) (by kernel_rfl) (by kernel_rfl) ?_
                refine qs_index sl38 (b := b) (off := off) (len := l.length) (cap := cap) (k := .i64) k (by kernel_rfl) (by kernel_rfl) (by kernel_rfl) hlt ?_
                refine qs_load_range (b := b) (o := off + k * 32) (h := h) arr27 hrk lbw hhl (by kernel_rfl) (by kernel_rfl) ?_
                refine qs_call (v := .string ⟨(hexL h).toArray⟩) fn9 (by kernel_rfl) (vs := #[.agg (bytesU h).toArray]) (by kernel_rfl) (fun w hw => (hex_calls h w hhl).mono fun _ _ ⟨he, hb⟩ => ⟨he, hw.next hb⟩) ?_
                refine qs_move (v := (.int .i64 (M : Int))) (by kernel_rfl) (by kernel_rfl) ?_
                refine qs_sub (k := .i64) (m := (M : Int)) (n := 1) (r := ((M - 1 : Nat) : Int)) (by kernel_rfl) (by kernel_rfl) (by kernel_rfl) hsub ?_
                refine qs_strTo (s := ⟨(hexL h).toArray⟩) (u := ⟨((hexL h).take (M - 1)).toArray⟩) (j := (M - 1)) (k := .i64) str9 (by kernel_rfl) (by kernel_rfl) (by kernel_rfl) (by rw [size_mk, length_hexL, hhl]; omega) (extract_mk _ _) ?_
                refine qs_move (v := (.slice (some ⟨b, off, none⟩) l.length cap)) (by kernel_rfl) (by kernel_rfl) ?_
                refine qs_move (v := (.int .i64 (j : Int))) (by kernel_rfl) (by kernel_rfl) ?_
                refine qs_index sl38 (b := b) (off := off) (len := l.length) (cap := cap) (k := .i64) j (by kernel_rfl) (by kernel_rfl) (by kernel_rfl) hjl ?_
                refine qs_load_range (b := b) (o := off + j * 32) (h := g) arr27 hrj lbw hgl (by kernel_rfl) (by kernel_rfl) ?_
                refine qs_call (v := .string ⟨(hexL g).toArray⟩) fn9 (by kernel_rfl) (vs := #[.agg (bytesU g).toArray]) (by kernel_rfl) (fun w hw => (hex_calls g w hgl).mono fun _ _ ⟨he, hb⟩ => ⟨he, hw.next hb⟩) ?_
                refine qs_move (v := (.int .i64 (M : Int))) (by kernel_rfl) (by kernel_rfl) ?_
                refine qs_sub (k := .i64) (m := (M : Int)) (n := 1) (r := ((M - 1 : Nat) : Int)) (by kernel_rfl) (by kernel_rfl) (by kernel_rfl) hsub ?_
                refine qs_strTo (s := ⟨(hexL g).toArray⟩) (u := ⟨((hexL g).take (M - 1)).toArray⟩) (j := (M - 1)) (k := .i64) str9 (by kernel_rfl) (by kernel_rfl) (by kernel_rfl) (by rw [size_mk, length_hexL, hgl]; omega) (extract_mk _ _) ?_
                refine qs_eql_str (s := ⟨((hexL h).take (M - 1)).toArray⟩) (u := ⟨((hexL g).take (M - 1)).toArray⟩) (r := false) (by kernel_rfl) (by kernel_rfl) (by kernel_rfl) hs ?_
                refine qs_pick (b := true) (v := (.bool false)) (by kernel_rfl) (by kernel_rfl) (by kernel_rfl) ?_
                refine qs_pick (b := false) (v := (.bool false)) (by kernel_rfl) (by kernel_rfl) (by kernel_rfl) ?_
                refine qs_assign (v := (.bool false)) (by kernel_rfl) (by kernel_rfl) ?_
                refine wpQuiet_nil ?_
                intro wq hwq
                simp only [Act.put, List.setIfInBounds_toArray, List.set_cons_succ, List.set_cons_zero]
                replace hbel := hbel.trans (hwq.mono hws)
                clear hwq
                go_wp2_with fail
                go_roundw
                case rel => exact ⟨j + 1, _, by omega, by go_num, by rw [HX.out], by rw [HY.out], hbel, HR⟩
                case measure => simp [intOf]; omega
        · obtain rfl : j = k := by omega
          have hR := hr.out
          rw [show (l.take j).drop j = [] from List.drop_eq_nil_of_le (by simp; omega), leadJ] at hR
          have HR := Lib.hid hR
          clear hr hR
          go_wp2_with fail
          go_roundw
          case rel => exact ⟨j + 1, m, by omega, by go_num, rfl, rfl, hbel, HR⟩
          case measure => simp [intOf]; omega
    · obtain rfl : k = l.length := by omega
      have hR := hr.out
      rw [List.drop_length, leadI] at hR
      obtain rfl : m = M := hR
      clear hr
      by_cases hm0 : m = 0
      · have e1 : decide (m = 0) = true := decide_eq_true hm0
        have e2 : decide (m = m ∧ 0 < m) = false := decide_eq_false (by omega)
        rw [e1, e2]
        have c3 : ((m : Int) == 0) = true := by rw [hm0]; rfl
        clear e1 e2 hm0
        go_wp2_with fail
        go_loopw [8] (fun i wr => ∃ k : Nat, k ≤ l.length ∧ i = .int .i64 k ∧ Below w.heap.size w wr) (fun i _ => l.length - (intOf i).toNat)
        case atStart => exact ⟨0, Nat.zero_le _, rfl, hbel⟩
        case round =>
          clear hbel hlt
          obtain ⟨k, hk, rfl, hbel⟩ := hrel
          by_cases hlt : k < l.length
          · obtain ⟨b, off, rfl, hb, hc⟩ := hH.addr (by omega)
            have hrk := rangeAt_below (hc k hlt) hbel hb
            have hhl := hH.len hlt
            have hf := HFL.out (l.getD k []) (by rw [List.getD_eq_getElem?_getD, List.getElem?_eq_getElem hlt]; exact List.getElem_mem _)
            have hck := hc k hlt
            generalize l.getD k [] = h at *
            have h32 : (bytesU h).toArray.size = 32 := by simp [hhl]
            have q0 : (0 : Int) ≤ (k : Int) := by omega
            have q1 : (k : Int) < (l.length : Int) := by omega
            have hne : (!(h == h)) = false := by simp
            have HF := Lib.hid hf
            clear hf
            go_wp2_with (first | ((with_reducible refine pl_load_range (b := b) (o := off + k * 32) arr27 hrk hhl ?_ ?_ ?_); (· rfl); (· rfl)))
            refine (short_calls h (m : Int) wr hhl).mono ?_
            rintro e w2 ⟨rfl, hb2⟩
            replace hbel := hbel.trans (hb2.mono hbel.size)
            go_wp2_with fail
            have hcall : Calls Try.prog 18 #[.string ⟨(shortR h (m : Int)).toArray⟩, .slice (some ⟨b, off, none⟩) l.length cap] w2 (fun e w' => e = .returned (.tuple #[.agg (bytesU h).toArray, .int .i64 0]) ∧ Below w2.heap.size w2 w') := by
              have h1 := find_calls ⟨(shortR h (m : Int)).toArray⟩ (some ⟨b, off, none⟩) l l.length cap w2 (by rw [size_mk, shortR, List.length_take]; omega) rfl hl (hH.below hbel)
              rw [show ((⟨(shortR h (m : Int)).toArray⟩ : ByteArray).data.toList) = shortR h (m : Int) from by simp, HF.out] at h1
              exact h1
            refine hcall.mono ?_
            rintro e w3 ⟨rfl, hb3⟩
            replace hbel := hbel.trans (hb3.mono hbel.size)
            clear hcall HF hrk hb2 hb3
            have K9 := (Blk.new w3 (bytesU (zerosL 32)).toArray 27).setRow (bytesU h).toArray
            have hz := below_setRow (hbel.alloc hbel.size (.cells (bytesU (zerosL 32)).toArray 27)) (b := w3.heap.size) hbel.size (bytesU h).toArray
            go_wp2_with (first | ((with_reducible refine pl_alloc_arr arr27 ?_ ?_); (· rfl)) | ((with_reducible refine pl_store_arr (cs := (bytesU h).toArray) arr27 (Blk.new _ _ _) ?_ ?_ ?_ size_zL h32 (one_bytesU _) ?_); (· rfl); (· rfl); (· rfl)))
            generalize hwz : ((w3.alloc (.cells (bytesU (zerosL 32)).toArray 27)).setRow w3.heap.size (bytesU h).toArray) = w4 at *
            clear hwz hbel
            generalize w3.heap.size = b9 at *
            have hrk := rangeAt_below hck hz hb
            have hws := hz.size
            have lbw := Nat.lt_of_lt_of_le hb hws
            refine region_grown (by kernel_rfl) (by kernel_rfl) ?_
            refine qs_load_arr (b := b9) (cs := (bytesU h).toArray) (by kernel_rfl) arr27 K9 (by kernel_rfl) h32 ?_
            refine qs_move (v := (.slice (some ⟨b, off, none⟩) l.length cap)) (by kernel_rfl) (by kernel_rfl) ?_
            refine qs_move (v := (.int .i64 (k : Int))) (by kernel_rfl) (by kernel_rfl) ?_
            refine qs_index sl38 (b := b) (off := off) (len := l.length) (cap := cap) (k := .i64) k (by kernel_rfl) (by kernel_rfl) (by kernel_rfl) hlt ?_
            refine qs_load_range (b := b) (o := off + k * 32) (h := h) arr27 hrk lbw hhl (by kernel_rfl) (by kernel_rfl) ?_
            refine qs_neq_arr arr27 h h (r := false) hne hhl hhl (by kernel_rfl) (by kernel_rfl) (by kernel_rfl) ?_
            refine qs_move (v := (.bool false)) (by kernel_rfl) (by kernel_rfl) ?_
            refine qs_move (v := (.int .i64 0)) (by kernel_rfl) (by kernel_rfl) ?_
            refine qs_neq_int (k := .i64) (m := 0) (n := 0) (r := false) (by kernel_rfl) (by kernel_rfl) (by kernel_rfl) (by decide) ?_
            refine qs_pick (b := false) (v := (.bool false)) (by kernel_rfl) (by kernel_rfl) (by kernel_rfl) ?_
            refine wpQuiet_nil ?_
            intro wq hwq
            simp only [Act.put, Exit.then, List.setIfInBounds_toArray, List.set_cons_succ, List.set_cons_zero]
            go_wp2_with fail
            go_roundw
            case rel => exact ⟨k + 1, by omega, by go_num, hz.trans (hwq.mono hws)⟩
            case measure => simp [intOf]; omega
          · obtain rfl : k = l.length := by omega
            go_wp2_with fail
            have hcall : Calls Try.prog 18 #[.string ⟨#[]⟩, .slice none 0 0] wr (fun e w' => e = .returned (.tuple #[.agg (bytesU z32).toArray, .int .i64 4]) ∧ Below wr.heap.size wr w') := find_calls ⟨#[]⟩ none [] 0 0 wr (by decide) rfl (by simp) ⟨Row.nil _ _, by simp⟩
            refine hcall.mono ?_
            rintro e w3 ⟨rfl, hb3⟩
            have hz := hbel.trans (hb3.mono hbel.size)
            have hz2 := below_setRow (hz.alloc hz.size (.cells (bytesU (zerosL 32)).toArray 27)) (b := w3.heap.size) hz.size (bytesU z32).toArray
            go_wp2_with (first | ((with_reducible refine pl_alloc_arr arr27 ?_ ?_); (· rfl)) | ((with_reducible refine pl_store_arr (cs := (bytesU z32).toArray) arr27 (Blk.new _ _ _) ?_ ?_ ?_ size_zL size_z32 (one_bytesU _) ?_); (· rfl); (· rfl); (· rfl)))
            go_ret
            exact ⟨rfl, hz2⟩
      · have e1 : decide (m = 0) = false := decide_eq_false hm0
        have e2 : decide (m = m ∧ 0 < m) = true := decide_eq_true (by omega)
        rw [e1, e2]
        have c3 : ((m : Int) == 0) = false := by rw [beq_eq_false_iff_ne]; omega
        clear e1 e2 hm0
        go_wp2_with fail
        go_loopw [8] (fun i wr => ∃ k : Nat, k ≤ l.length ∧ i = .int .i64 k ∧ Below w.heap.size w wr) (fun i _ => l.length - (intOf i).toNat)
        case atStart => exact ⟨0, Nat.zero_le _, rfl, hbel⟩
        case round =>
          clear hbel hlt
          obtain ⟨k, hk, rfl, hbel⟩ := hrel
          by_cases hlt : k < l.length
          · obtain ⟨b, off, rfl, hb, hc⟩ := hH.addr (by omega)
            have hrk := rangeAt_below (hc k hlt) hbel hb
            have hhl := hH.len hlt
            have hf := HFL.out (l.getD k []) (by rw [List.getD_eq_getElem?_getD, List.getElem?_eq_getElem hlt]; exact List.getElem_mem _)
            have hck := hc k hlt
            generalize l.getD k [] = h at *
            have h32 : (bytesU h).toArray.size = 32 := by simp [hhl]
            have q0 : (0 : Int) ≤ (k : Int) := by omega
            have q1 : (k : Int) < (l.length : Int) := by omega
            have hne : (!(h == h)) = false := by simp
            have HF := Lib.hid hf
            clear hf
            go_wp2_with (first | ((with_reducible refine pl_load_range (b := b) (o := off + k * 32) arr27 hrk hhl ?_ ?_ ?_); (· rfl); (· rfl)))
            refine (short_calls h (m : Int) wr hhl).mono ?_
            rintro e w2 ⟨rfl, hb2⟩
            replace hbel := hbel.trans (hb2.mono hbel.size)
            go_wp2_with fail
            have hcall : Calls Try.prog 18 #[.string ⟨(shortR h (m : Int)).toArray⟩, .slice (some ⟨b, off, none⟩) l.length cap] w2 (fun e w' => e = .returned (.tuple #[.agg (bytesU h).toArray, .int .i64 0]) ∧ Below w2.heap.size w2 w') := by
              have h1 := find_calls ⟨(shortR h (m : Int)).toArray⟩ (some ⟨b, off, none⟩) l l.length cap w2 (by rw [size_mk, shortR, List.length_take]; omega) rfl hl (hH.below hbel)
              rw [show ((⟨(shortR h (m : Int)).toArray⟩ : ByteArray).data.toList) = shortR h (m : Int) from by simp, HF.out] at h1
              exact h1
            refine hcall.mono ?_
            rintro e w3 ⟨rfl, hb3⟩
            replace hbel := hbel.trans (hb3.mono hbel.size)
            clear hcall HF hrk hb2 hb3
            have K9 := (Blk.new w3 (bytesU (zerosL 32)).toArray 27).setRow (bytesU h).toArray
            have hz := below_setRow (hbel.alloc hbel.size (.cells (bytesU (zerosL 32)).toArray 27)) (b := w3.heap.size) hbel.size (bytesU h).toArray
            go_wp2_with (first | ((with_reducible refine pl_alloc_arr arr27 ?_ ?_); (· rfl)) | ((with_reducible refine pl_store_arr (cs := (bytesU h).toArray) arr27 (Blk.new _ _ _) ?_ ?_ ?_ size_zL h32 (one_bytesU _) ?_); (· rfl); (· rfl); (· rfl)))
            generalize hwz : ((w3.alloc (.cells (bytesU (zerosL 32)).toArray 27)).setRow w3.heap.size (bytesU h).toArray) = w4 at *
            clear hwz hbel
            generalize w3.heap.size = b9 at *
            have hrk := rangeAt_below hck hz hb
            have hws := hz.size
            have lbw := Nat.lt_of_lt_of_le hb hws
            refine region_grown (by kernel_rfl) (by kernel_rfl) ?_
            refine qs_load_arr (b := b9) (cs := (bytesU h).toArray) (by kernel_rfl) arr27 K9 (by kernel_rfl) h32 ?_
            refine qs_move (v := (.slice (some ⟨b, off, none⟩) l.length cap)) (by kernel_rfl) (by kernel_rfl) ?_
            refine qs_move (v := (.int .i64 (k : Int))) (by kernel_rfl) (by kernel_rfl) ?_
            refine qs_index sl38 (b := b) (off := off) (len := l.length) (cap := cap) (k := .i64) k (by kernel_rfl) (by kernel_rfl) (by kernel_rfl) hlt ?_
            refine qs_load_range (b := b) (o := off + k * 32) (h := h) arr27 hrk lbw hhl (by kernel_rfl) (by kernel_rfl) ?_
            refine qs_neq_arr arr27 h h (r := false) hne hhl hhl (by kernel_rfl) (by kernel_rfl) (by kernel_rfl) ?_
            refine qs_move (v := (.bool false)) (by kernel_rfl) (by kernel_rfl) ?_
            refine qs_move (v := (.int .i64 0)) (by kernel_rfl) (by kernel_rfl) ?_
            refine qs_neq_int (k := .i64) (m := 0) (n := 0) (r := false) (by kernel_rfl) (by kernel_rfl) (by kernel_rfl) (by decide) ?_
            refine qs_pick (b := false) (v := (.bool false)) (by kernel_rfl) (by kernel_rfl) (by kernel_rfl) ?_
            refine wpQuiet_nil ?_
            intro wq hwq
            simp only [Act.put, Exit.then, List.setIfInBounds_toArray, List.set_cons_succ, List.set_cons_zero]
            go_wp2_with fail
            go_roundw
            case rel => exact ⟨k + 1, by omega, by go_num, hz.trans (hwq.mono hws)⟩
            case measure => simp [intOf]; omega
          · obtain rfl : k = l.length := by omega
            go_wp2_with fail
            have hcall : Calls Try.prog 18 #[.string ⟨#[]⟩, .slice none 0 0] wr (fun e w' => e = .returned (.tuple #[.agg (bytesU z32).toArray, .int .i64 4]) ∧ Below wr.heap.size wr w') := find_calls ⟨#[]⟩ none [] 0 0 wr (by decide) rfl (by simp) ⟨Row.nil _ _, by simp⟩
            refine hcall.mono ?_
            rintro e w3 ⟨rfl, hb3⟩
            have hz := hbel.trans (hb3.mono hbel.size)
            have hz2 := below_setRow (hz.alloc hz.size (.cells (bytesU (zerosL 32)).toArray 27)) (b := w3.heap.size) hz.size (bytesU z32).toArray
            go_wp2_with (first | ((with_reducible refine pl_alloc_arr arr27 ?_ ?_); (· rfl)) | ((with_reducible refine pl_store_arr (cs := (bytesU z32).toArray) arr27 (Blk.new _ _ _) ?_ ?_ ?_ size_zL size_z32 (one_bytesU _) ?_); (· rfl); (· rfl); (· rfl)))
            go_ret
            exact ⟨rfl, hz2⟩
end Go.Proofs.Ytdanbjpfojgmiaa.Dg
