/- The walk of estuaryref01.Find. -/
import Derived.Test.YtdanbjpfojgmiaaFindW
namespace Go.Proofs.Ytdanbjpfojgmiaa.Dg
open Go.RowKit Mem Ops
attribute [local irreducible] wpQuiet wpAnyH

theorem sl38 : SlTy Try.prog 38 27 32 := ⟨Try.underlying38, by kernel_rfl⟩
theorem plain_false (s : ByteArray) (k : Nat) (hk : k < s.size) (hd : digI s[k] < 0) : plainR s.data.toList = false := by
  rw [plainR, List.all_eq_false]
  refine ⟨s[k], ?_, by simpa using hd⟩
  rw [str_at s k hk, List.getD_eq_getElem?_getD, List.getElem?_eq_getElem (show k < s.data.toList.length from hk)]
  exact List.getElem_mem _
theorem short_is (h : List UInt8) (p : ByteArray) (hp : p.size ≤ 64) : (!((⟨(shortR h (p.size : Int)).toArray⟩ : ByteArray).toList == p.toList)) = !(decide (p.data.toList <+: hexL h)) := by
  congr 1
  rw [Bool.eq_iff_iff, beq_iff_eq, decide_eq_true_eq, ByteArray.toList_mk, ByteArray.toList_eq, shortR, show (min (max (p.size : Int) 0) 64).toNat = p.data.toList.length from by show _ = p.size; omega]
  constructor
  · intro h; rw [← h]; exact List.take_prefix _ _
  · intro h; exact (List.prefix_iff_eq_take.1 h).symm

set_option maxRecDepth 100000 in
set_option maxHeartbeats 4000000 in
theorem findRef_calls (p : ByteArray) (a : Option Addr) (l : List (List UInt8)) (n cap : Nat) (w : World) (hp : p.size ≤ 140737488351232) (hn : n = l.length) (hl : l.length ≤ 140737488351232) (hH : Hs w a l) :
    Calls Try.prog 19 #[.string p, .slice a n cap] w (Tup2 (findAll p.data.toList l) w) := by
  subst hn
  have hplen : p.data.toList.length = p.size := rfl
  generalize hR : findAll p.data.toList l = R
  rw [findAll, hplen] at hR
  by_cases h64 : p.size > 64
  · rw [if_pos (.inl h64)] at hR
    have HR := Lib.hid hR
    have c1 : (64 : Int) < (p.size : Int) := by omega
    clear hR h64
    go_enter Try.func19, Try.ntmps19
    go_wp2_with (first | ((with_reducible refine pl_alloc_arr arr27 ?_ ?_); (· rfl)) | (with_reducible refine step_build0 arr27 ?_) | ((with_reducible refine pl_store_arr (cs := (bytesU (zerosL 32)).toArray) arr27 (Blk.new _ _ _) ?_ ?_ ?_ size_zL size_zL (one_bytesU _) ?_); (· rfl); (· rfl); (· rfl)))
    ((try simp only [Exit.inBlock, Exit.then]); rw [← HR.out]; exact tup2_ret (r := (z32, 10)) rfl rfl rfl ((Blk.new _ _ _).setRow _) arr27 (by simp [z32]) rfl (below_setRow ((Below.refl _ _).alloc (Nat.le_refl _) _) (Nat.le_refl _) _))
  · have c1 : ¬ (64 : Int) < (p.size : Int) := by omega
    have H64 := Lib.hid h64
    have HR := Lib.hid hR
    clear hR h64
    go_enter Try.func19, Try.ntmps19
    go_wp2_with (first | ((with_reducible refine pl_alloc_arr arr27 ?_ ?_); (· rfl)))
    have K4 := Blk.new w (bytesU (zerosL 32)).toArray 27
    have hbel0 := (Below.refl w.heap.size w).alloc (Nat.le_refl _) (.cells (bytesU (zerosL 32)).toArray 27)
    go_loop [6] (fun i => ∃ k : Nat, k ≤ p.size ∧ i = .int .i64 k ∧ Hid (∀ j (h : j < p.size), j < k → 0 ≤ digI p[j])) (fun i => p.size - (intOf i).toNat)
    case atStart => exact ⟨0, Nat.zero_le _, rfl, fun j _ h => absurd h (by omega)⟩
    case round =>
      obtain ⟨k, hk, rfl, hall⟩ := hrel
      by_cases hlt : k < p.size
      · generalize hc : p[k] = c at *
        by_cases hd : digI c < 0
        · have hR := HR.out
          rw [if_pos (.inr (plain_false p k hlt (by rw [hc]; exact hd)))] at hR
          have HR := Lib.hid hR
          clear hR
          go_wp2_with (first | (go_at_call 24; refine (digit_calls c _).mono ?_; rintro e w' ⟨rfl, rfl⟩) | (with_reducible refine step_build0 arr27 ?_) | ((with_reducible refine pl_store_arr (cs := (bytesU (zerosL 32)).toArray) arr27 K4 ?_ ?_ ?_ size_zL size_zL (one_bytesU _) ?_); (· rfl); (· rfl); (· rfl)))
          ((try simp only [Exit.inBlock, Exit.then]); rw [← HR.out]; exact tup2_ret (r := (z32, 10)) rfl rfl rfl (K4.setRow _) arr27 (by simp [z32]) rfl (below_setRow hbel0 (Nat.le_refl _) _))
        · have hall2 : Hid (∀ j (h : j < p.size), j < k + 1 → 0 ≤ digI p[j]) := fun j hj h => by
            rcases Nat.lt_or_ge j k with q | q
            · exact hall.out j hj q
            · obtain rfl : j = k := by omega
              rw [hc]; omega
          go_wp2_with (first | (go_at_call 24; refine (digit_calls c _).mono ?_; rintro e w' ⟨rfl, rfl⟩))
          go_round
          case rel => exact ⟨k + 1, by omega, by go_num, hall2⟩
          case measure => simp [intOf]; omega
      · have hpl : plainR p.data.toList = true := by
          rw [plainR, List.all_eq_true]
          intro x hx
          obtain ⟨j, hj, rfl⟩ := List.getElem_of_mem hx
          exact decide_eq_true (hall.out j hj (by have : j < p.size := hj; omega))
        have hR := HR.out
        rw [if_neg (by rw [hpl]; intro h; rcases h with h | h; exact H64.out h; cases h)] at hR
        have HR := Lib.hid hR
        clear hR hall hpl
        go_wp2
        go_loopw [7, 8] (fun v i wr => ∃ (k : Nat) (fo : Option (List UInt8)) (f : Int), k ≤ l.length ∧ i = .int .i64 k ∧ v = .int .i64 f ∧ ((fo = none ∧ f = -1) ∨ ∃ j : Nat, j < k ∧ f = (j : Int) ∧ fo = some (l.getD j [])) ∧ Blk wr w.heap.size (bytesU z32).toArray 27 ∧ Below w.heap.size w wr ∧ Hid (findR p.data.toList (l.drop k) fo = R)) (fun _ i _ => l.length - (intOf i).toNat)
        case atStart => exact ⟨0, none, -1, Nat.zero_le _, rfl, rfl, .inl ⟨rfl, rfl⟩, K4, hbel0, HR⟩
        case round =>
          clear HR K4 hbel0
          obtain ⟨k, fo, fi, hk, rfl, rfl, hfo, hb4, hbel, hr⟩ := hrel
          by_cases hlt : k < l.length
          · obtain ⟨b, off, rfl, hb, hc⟩ := hH.addr (by omega)
            have hrk := rangeAt_below (hc k hlt) hbel hb
            have hhl := hH.len hlt
            have hR := hr.out
            rw [drop_consH l k hlt, findR_cons] at hR
            clear hr
            generalize hhk : l.getD k [] = h at *
            have Hhk := Lib.hid hhk
            clear hhk
            have q0 : (0 : Int) ≤ (k : Int) := by omega
            have q1 : (k : Int) < (l.length : Int) := by omega
            have hsi := short_is h p (by have := H64.out; omega)
            have csh : ∀ w, Calls Try.prog 14 #[.agg (bytesU h).toArray, .int .i64 (p.size : Int)] w (fun e w' => e = .returned (.string ⟨(shortR h (p.size : Int)).toArray⟩) ∧ Below w.heap.size w w') := fun w => shortRef_calls h (p.size : Int) w hhl
            have CSH := Lib.hid csh
            have hwl := hbel.size
            clear csh
            generalize (⟨(shortR h (p.size : Int)).toArray⟩ : ByteArray) = S at *
            go_wp2_with (first | ((with_reducible refine pl_load_range (b := b) (o := off + k * 32) arr27 hrk hhl ?_ ?_ ?_); (· rfl); (· rfl)))
            refine (CSH.out _).mono ?_
            rintro e w1 ⟨rfl, hb1⟩
            replace hb4 := hb4.below hb1 hb4.lt
            replace hbel := hbel.trans (hb1.mono hwl)
            replace hrk := rangeAt_below hrk hb1 (by omega)
            have hwl1 := hbel.size
            by_cases hpre : p.data.toList <+: hexL h
            · rw [if_pos hpre] at hR
              rw [decide_eq_true hpre] at hsi
              replace hsi : (!(S.toList == p.toList)) = false := hsi
              clear hpre
              rcases hfo with ⟨rfl, rfl⟩ | ⟨f, hfk, rfl, rfl⟩
              · have HR := Lib.hid hR
                clear hR
                go_wp2
                refine region_grown (by kernel_rfl) (by kernel_rfl) ?_
                refine qs_move (v := (.int .i64 (-1))) (by kernel_rfl) (by kernel_rfl) ?_
                refine qs_geq_int (k := .i64) (m := -1) (n := 0) (r := false) (by kernel_rfl) (by kernel_rfl) (by kernel_rfl) (by decide) ?_
                refine qs_move (v := (.bool false)) (by kernel_rfl) (by kernel_rfl) ?_
                refine qs_skip (by kernel_rfl) ?_
                refine qs_skip (by kernel_rfl) ?_
                refine qs_skip (by kernel_rfl) ?_
                refine qs_skip (by kernel_rfl) ?_
                refine qs_skip (by kernel_rfl) ?_
                refine qs_skip (by kernel_rfl) ?_
                refine qs_skip (by kernel_rfl) ?_
                refine qs_skip (by kernel_rfl) ?_
                refine qs_skip (by kernel_rfl) ?_
                refine qs_pick (b := false) (v := (.bool false)) (by kernel_rfl) (by kernel_rfl) (by kernel_rfl) ?_
                refine wpQuiet_nil ?_
                intro wq hwq
                simp only [Act.put, Exit.then, List.setIfInBounds_toArray, List.set_cons_succ, List.set_cons_zero]
                go_wp2
                go_roundw
                case rel => exact ⟨k + 1, some h, (k : Int), by omega, by go_num, rfl, .inr ⟨k, by omega, rfl, by rw [← Hhk.out]⟩, hb4.below hwq hb4.lt, hbel.trans (hwq.mono hwl1), HR.out⟩
                case measure => simp [intOf]; omega
              · have hf : f < l.length := by omega
                have hrf := rangeAt_below (hc f hf) hbel hb
                have hfl := hH.len hf
                have lbw : b < w1.heap.size := by omega
                generalize l.getD f [] = g at *
                by_cases hgh : g = h
                · subst hgh
                  simp only [if_true] at hR
                  have HR := Lib.hid hR
                  have hqq : (!(g == g)) = false := by simp
                  clear hR
                  go_wp2
                  refine region_grown (by kernel_rfl) (by kernel_rfl) ?_
                  refine qs_move (v := (.int .i64 (f : Int))) (by kernel_rfl) (by kernel_rfl) ?_
                  refine qs_geq_int (k := .i64) (m := (f : Int)) (n := 0) (r := true) (by kernel_rfl) (by kernel_rfl) (by kernel_rfl) (by simp) ?_
                  refine qs_move (v := (.bool true)) (by kernel_rfl) (by kernel_rfl) ?_
                  refine qs_move (v := (.slice (some ⟨b, off, none⟩) l.length cap)) (by kernel_rfl) (by kernel_rfl) ?_
                  refine qs_move (v := (.int .i64 (f : Int))) (by kernel_rfl) (by kernel_rfl) ?_
                  refine qs_index sl38 (b := b) (off := off) (len := l.length) (cap := cap) (k := .i64) f (by kernel_rfl) (by kernel_rfl) (by kernel_rfl) hf ?_
                  refine qs_load_range (b := b) (o := off + f * 32) (h := g) arr27 hrf lbw hfl (by kernel_rfl) (by kernel_rfl) ?_
                  refine qs_move (v := (.slice (some ⟨b, off, none⟩) l.length cap)) (by kernel_rfl) (by kernel_rfl) ?_
                  refine qs_move (v := (.int .i64 (k : Int))) (by kernel_rfl) (by kernel_rfl) ?_
                  refine qs_index sl38 (b := b) (off := off) (len := l.length) (cap := cap) (k := .i64) k (by kernel_rfl) (by kernel_rfl) (by kernel_rfl) hlt ?_
                  refine qs_load_range (b := b) (o := off + k * 32) (h := g) arr27 hrk lbw hhl (by kernel_rfl) (by kernel_rfl) ?_
                  refine qs_neq_arr arr27 g g (r := false) hqq hfl hhl (by kernel_rfl) (by kernel_rfl) (by kernel_rfl) ?_
                  refine qs_pick (b := true) (v := (.bool false)) (by kernel_rfl) (by kernel_rfl) (by kernel_rfl) ?_
                  refine wpQuiet_nil ?_
                  intro wq hwq
                  simp only [Act.put, Exit.then, List.setIfInBounds_toArray, List.set_cons_succ, List.set_cons_zero]
                  go_wp2
                  go_roundw
                  case rel => exact ⟨k + 1, some g, (k : Int), by omega, by go_num, rfl, .inr ⟨k, by omega, rfl, by rw [← Hhk.out]⟩, hb4.below hwq hb4.lt, hbel.trans (hwq.mono hwl1), HR.out⟩
                  case measure => simp [intOf]; omega
                · simp only [if_neg hgh] at hR
                  have HR := Lib.hid hR
                  have hqq : (!(g == h)) = true := by simp [hgh]
                  clear hR
                  go_wp2
                  refine region_grown (by kernel_rfl) (by kernel_rfl) ?_
                  refine qs_move (v := (.int .i64 (f : Int))) (by kernel_rfl) (by kernel_rfl) ?_
                  refine qs_geq_int (k := .i64) (m := (f : Int)) (n := 0) (r := true) (by kernel_rfl) (by kernel_rfl) (by kernel_rfl) (by simp) ?_
                  refine qs_move (v := (.bool true)) (by kernel_rfl) (by kernel_rfl) ?_
                  refine qs_move (v := (.slice (some ⟨b, off, none⟩) l.length cap)) (by kernel_rfl) (by kernel_rfl) ?_
                  refine qs_move (v := (.int .i64 (f : Int))) (by kernel_rfl) (by kernel_rfl) ?_
                  refine qs_index sl38 (b := b) (off := off) (len := l.length) (cap := cap) (k := .i64) f (by kernel_rfl) (by kernel_rfl) (by kernel_rfl) hf ?_
                  refine qs_load_range (b := b) (o := off + f * 32) (h := g) arr27 hrf lbw hfl (by kernel_rfl) (by kernel_rfl) ?_
                  refine qs_move (v := (.slice (some ⟨b, off, none⟩) l.length cap)) (by kernel_rfl) (by kernel_rfl) ?_
                  refine qs_move (v := (.int .i64 (k : Int))) (by kernel_rfl) (by kernel_rfl) ?_
                  refine qs_index sl38 (b := b) (off := off) (len := l.length) (cap := cap) (k := .i64) k (by kernel_rfl) (by kernel_rfl) (by kernel_rfl) hlt ?_
                  refine qs_load_range (b := b) (o := off + k * 32) (h := h) arr27 hrk lbw hhl (by kernel_rfl) (by kernel_rfl) ?_
                  refine qs_neq_arr arr27 g h (r := true) hqq hfl hhl (by kernel_rfl) (by kernel_rfl) (by kernel_rfl) ?_
                  refine qs_pick (b := true) (v := (.bool true)) (by kernel_rfl) (by kernel_rfl) (by kernel_rfl) ?_
                  refine wpQuiet_nil ?_
                  intro wq hwq
                  simp only [Act.put, Exit.then, List.setIfInBounds_toArray, List.set_cons_succ, List.set_cons_zero]
                  have K4 := hb4.below hwq hb4.lt
                  go_wp2_with (first | (with_reducible refine step_build0 arr27 ?_) | ((with_reducible refine pl_store_arr (cs := (bytesU (zerosL 32)).toArray) arr27 K4 ?_ ?_ ?_ size_z32 size_zL (one_bytesU _) ?_); (· rfl); (· rfl); (· rfl)))
                  ((try simp only [Exit.inBlock, Exit.then]); rw [← HR.out]; exact tup2_ret (r := (z32, 11)) rfl rfl rfl (K4.setRow _) arr27 (by simp [z32]) rfl (below_setRow (hbel.trans (hwq.mono hwl1)) (Nat.le_refl _) _))
            · rw [if_neg hpre] at hR
              rw [decide_eq_false hpre] at hsi
              replace hsi : (!(S.toList == p.toList)) = true := hsi
              have HR := Lib.hid hR
              clear hpre hR
              go_wp2
              go_roundw
              case rel => exact ⟨k + 1, fo, fi, by omega, by go_num, rfl, hfo.imp id fun ⟨j, q, h⟩ => ⟨j, by omega, h⟩, hb4, hbel, HR.out⟩
              case measure => simp [intOf]; omega
          · obtain rfl : k = l.length := by omega
            have hR := hr.out
            rw [List.drop_length] at hR
            clear hr
            rcases hfo with ⟨rfl, rfl⟩ | ⟨f, hfk, rfl, rfl⟩
            · rw [findR] at hR
              have HR := Lib.hid hR
              clear hR
              go_wp2_with (first | (with_reducible refine step_build0 arr27 ?_) | ((with_reducible refine pl_store_arr (cs := (bytesU (zerosL 32)).toArray) arr27 hb4 ?_ ?_ ?_ size_z32 size_zL (one_bytesU _) ?_); (· rfl); (· rfl); (· rfl)))
              ((try simp only [Exit.inBlock, Exit.then]); rw [← HR.out]; exact tup2_ret (r := (z32, 4)) rfl rfl rfl (hb4.setRow _) arr27 (by simp [z32]) rfl (below_setRow hbel (Nat.le_refl _) _))
            · rw [findR] at hR
              have HR := Lib.hid hR
              obtain ⟨b, off, rfl, hb, hc⟩ := hH.addr (by omega)
              have hrf := rangeAt_below (hc f hfk) hbel hb
              have hfl := hH.len hfk
              clear hR hc
              generalize l.getD f [] = g at *
              have g32 : (bytesU g).toArray.size = 32 := by simp [hfl]
              have q0 : (0 : Int) ≤ (f : Int) := by omega
              have q1 : (f : Int) < (l.length : Int) := by omega
              have q2 : ¬ (f : Int) < 0 := by omega
              go_wp2_with (first | ((with_reducible refine pl_load_range (b := b) (o := off + f * 32) arr27 hrf hfl ?_ ?_ ?_); (· rfl); (· rfl)) | ((with_reducible refine pl_store_arr (cs := (bytesU g).toArray) arr27 hb4 ?_ ?_ ?_ size_z32 g32 (one_bytesU _) ?_); (· rfl); (· rfl); (· rfl)))
              ((try simp only [Exit.inBlock, Exit.then]); rw [← HR.out]; exact tup2_ret (r := (g, 0)) rfl rfl rfl (hb4.setRow _) arr27 hfl rfl (below_setRow hbel (Nat.le_refl _) _))
end Go.Proofs.Ytdanbjpfojgmiaa.Dg
