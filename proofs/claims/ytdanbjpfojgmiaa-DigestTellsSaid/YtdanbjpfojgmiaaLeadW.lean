/- The walk of digest.Lead. -/
import Derived.Test.YtdanbjpfojgmiaaLeadX
import Derived.Test.YtdanbjpfojgmiaaBkW
namespace Go.Proofs.Ytdanbjpfojgmiaa.Dg
open Go.RowKit Mem Ops
attribute [local irreducible] wpQuiet wpAnyH
theorem str9 : Try.prog.underlying 9 = some .string := Try.underlying9

set_option maxRecDepth 100000 in
set_option maxHeartbeats 4000000 in
theorem lead_calls (a : Option Addr) (l : List (List UInt8)) (n cap : Nat) (w : World) (hn : n = l.length) (hl : l.length ≤ 140737488351232) (hcap : n ≤ cap) (hH : Hs w a l) :
    Calls Try.prog 20 #[.slice a n cap] w fun e w' => e = .returned (.int .i64 (leadR l : Nat)) ∧ Below w.heap.size w w' := by
  subst hn
  generalize hR : leadR l = R
  have HR : Hid (leadI (l.take 0) (l.drop 0) 0 = R) := Lib.hid hR
  clear hR
  go_enter Try.func20, Try.ntmps20
  go_wp2
  go_loopw [3, 13] (fun v i wr => ∃ k n : Nat, k ≤ l.length ∧ i = .int .i64 k ∧ v = .int .i64 n ∧ n ≤ 64 ∧ Below w.heap.size w wr ∧ Hid (leadI (l.take k) (l.drop k) n = R)) (fun _ i _ => l.length - (intOf i).toNat)
  case atStart => exact ⟨0, 0, Nat.zero_le _, rfl, rfl, by omega, Below.refl _ _, HR⟩
  case round =>
    clear HR
    obtain ⟨k, n, hk, rfl, rfl, hn, hbel, hr⟩ := hrel
    by_cases hlt : k < l.length
    · obtain ⟨b, off, rfl, hb, hc⟩ := hH.addr (by omega)
      have hck := rangeAt_below (hc k hlt) hbel hb
      have hhl := hH.len hlt
      have hR := hr.out
      rw [leadI_step l hlt] at hR
      have HR := Lib.hid hR
      clear hr hR
      generalize l.getD k [] = h at *
      have h32 : (bytesU h).toArray.size = 32 := by simp [hhl]
      have q0 : (0 : Int) ≤ (k : Int) := by omega
      have q1 : (k : Int) < (l.length : Int) := by omega
      have q2 : (k : Int) ≤ (cap : Int) := by omega
      have KH := (Blk.new wr (bytesU (zerosL 32)).toArray 27).setRow (bytesU h).toArray
      have hz := below_setRow (hbel.alloc hbel.size (.cells (bytesU (zerosL 32)).toArray 27)) (b := wr.heap.size) hbel.size (bytesU h).toArray
      go_wp2_with (first | ((with_reducible refine pl_load_range (b := b) (o := off + k * 32) arr27 hck hhl ?_ ?_ ?_); (· rfl); (· rfl)) | ((with_reducible refine pl_alloc_arr arr27 ?_ ?_); (· rfl)) | ((with_reducible refine pl_store_arr (cs := (bytesU h).toArray) arr27 (Blk.new _ _ _) ?_ ?_ ?_ size_zL h32 (one_bytesU _) ?_); (· rfl); (· rfl); (· rfl)))
      generalize hwz : ((wr.alloc (.cells (bytesU (zerosL 32)).toArray 27)).setRow wr.heap.size (bytesU h).toArray) = wz at *
      clear hwz hbel hck
      have lh := hz.size
      generalize wr.heap.size = b5 at *
      go_loopw [3, 22] (fun v i wr => ∃ j m : Nat, j ≤ k ∧ i = .int .i64 j ∧ v = .int .i64 m ∧ m ≤ 64 ∧ Below w.heap.size w wr ∧ Blk wr b5 (bytesU h).toArray 27 ∧ Hid (leadI (l.take (k + 1)) (l.drop (k + 1)) (leadJ h ((l.take k).drop j) m) = R)) (fun _ i _ => k - (intOf i).toNat)
      case atStart => exact ⟨0, n, Nat.zero_le _, rfl, rfl, hn, hz, KH, HR⟩
      case round =>
        clear hn
        clear HR hz lh KH
        obtain ⟨j, m, hj, rfl, rfl, hm, hbel, KH, hr⟩ := hrel
        by_cases hjk : j < k
        · have hjl : j < l.length := by omega
          have hcj := rangeAt_below (hc j hjl) hbel hb
          have hgl := hH.len hjl
          have hR := hr.out
          rw [take_drop_cons l hjk hk, leadJ] at hR
          have HR := Lib.hid hR
          clear hr hR
          generalize l.getD j [] = g at *
          have g32 : (bytesU g).toArray.size = 32 := by simp [hgl]
          have p0 : (0 : Int) ≤ (j : Int) := by omega
          have p1 : (j : Int) < (k : Int) := by omega
          have KG := (Blk.new wr (bytesU (zerosL 32)).toArray 27).setRow (bytesU g).toArray
          have KH2 := (KH.alloc (.cells (bytesU (zerosL 32)).toArray 27)).setRow_far (k := wr.heap.size) (by have := KH.lt; omega) (bytesU g).toArray
          have hz := below_setRow (hbel.alloc hbel.size (.cells (bytesU (zerosL 32)).toArray 27)) (b := wr.heap.size) hbel.size (bytesU g).toArray
          have hR := HR.out
          clear HR KH
          by_cases hgh : h = g
          · have heq : (h == g) = true := by simp [hgh]
            rw [if_pos hgh] at hR
            have HR := Lib.hid hR
            clear hR hgh
            go_wp2_with (first | ((with_reducible refine pl_load_range (b := b) (o := off + j * 32) arr27 hcj hgl ?_ ?_ ?_); (· rfl); (· rfl)) | ((with_reducible refine pl_alloc_arr arr27 ?_ ?_); (· rfl)) | ((with_reducible refine pl_store_arr (cs := (bytesU g).toArray) arr27 (Blk.new _ _ _) ?_ ?_ ?_ size_zL g32 (one_bytesU _) ?_); (· rfl); (· rfl); (· rfl)) | ((with_reducible refine pl_load_arr (b := b5) (cs := (bytesU h).toArray) arr27 KH2 ?_ ?_ h32 ?_); (· rfl); (· rfl)) | ((with_reducible refine pl_load_arr (b := wr.heap.size) (cs := (bytesU g).toArray) arr27 KG ?_ ?_ g32 ?_); (· rfl); (· rfl)) | ((with_reducible refine pl_eql_arr arr27 h g heq hhl hgl ?_ ?_ ?_ ?_); (· rfl); (· rfl); (· rfl)))
            go_roundw
            case rel => exact ⟨j + 1, m, by omega, by go_num, rfl, hm, hz, KH2, HR⟩
            case measure => simp [intOf]; omega
          · have heq : (h == g) = false := by simp [hgh]
            rw [if_neg hgh] at hR
            have HR := Lib.hid hR
            have HL := Lib.hid (lcp_hex hhl hgl hgh)
            clear hR hgh
            go_wp2_with (first | ((with_reducible refine pl_load_range (b := b) (o := off + j * 32) arr27 hcj hgl ?_ ?_ ?_); (· rfl); (· rfl)) | ((with_reducible refine pl_alloc_arr arr27 ?_ ?_); (· rfl)) | ((with_reducible refine pl_store_arr (cs := (bytesU g).toArray) arr27 (Blk.new _ _ _) ?_ ?_ ?_ size_zL g32 (one_bytesU _) ?_); (· rfl); (· rfl); (· rfl)) | ((with_reducible refine pl_load_arr (b := b5) (cs := (bytesU h).toArray) arr27 KH2 ?_ ?_ h32 ?_); (· rfl); (· rfl)) | ((with_reducible refine pl_load_arr (b := wr.heap.size) (cs := (bytesU g).toArray) arr27 KG ?_ ?_ g32 ?_); (· rfl); (· rfl)) | ((with_reducible refine pl_eql_arr arr27 h g heq hhl hgl ?_ ?_ ?_ ?_); (· rfl); (· rfl); (· rfl)))
            generalize hwz : ((wr.alloc (.cells (bytesU (zerosL 32)).toArray 27)).setRow wr.heap.size (bytesU g).toArray) = wy at *
            clear hwz hbel hcj
            generalize wr.heap.size = b7 at *
            have hsy := hz.size
            refine region_grown (by kernel_rfl) (by kernel_rfl) ?_
            refine qs_load_arr (b := b5) (cs := (bytesU h).toArray) (by kernel_rfl) arr27 KH2 (by kernel_rfl) h32 ?_
            refine qs_call (v := (.string ⟨(hexL h).toArray⟩)) fn9 (by kernel_rfl) (vs := #[.agg (bytesU h).toArray]) (by kernel_rfl) (fun w hw => (hex_calls h w hhl).mono fun _ _ ⟨he, hb⟩ => ⟨he, hw.next hb⟩) ?_
            refine qs_load_arr (b := b7) (cs := (bytesU g).toArray) (by kernel_rfl) arr27 KG (by kernel_rfl) g32 ?_
            refine qs_call (v := (.string ⟨(hexL g).toArray⟩)) fn9 (by kernel_rfl) (vs := #[.agg (bytesU g).toArray]) (by kernel_rfl) (fun w hw => (hex_calls g w hgl).mono fun _ _ ⟨he, hb⟩ => ⟨he, hw.next hb⟩) ?_
            refine qs_assign (v := (.string ⟨(hexL h).toArray⟩)) (by kernel_rfl) (by kernel_rfl) ?_
            refine qs_assign (v := (.string ⟨(hexL g).toArray⟩)) (by kernel_rfl) (by kernel_rfl) ?_
            refine wpQuiet_nil ?_
            intro wq hwq
            simp only [Act.put, Exit.then, List.setIfInBounds_toArray, List.set_cons_succ, List.set_cons_zero]
            have KH3 := KH2.below hwq KH2.lt
            have hz3 := hz.trans (hwq.mono hsy)
            clear hz KH2 KG hwq hsy
            go_wp2
            go_loopw [10] (fun v wr => ∃ t : Nat, v = .int .i64 t ∧ Hid (t ≤ lcp (hexL h) (hexL g)) ∧ Below w.heap.size w wr ∧ Blk wr b5 (bytesU h).toArray 27) (fun v _ => lcp (hexL h) (hexL g) - (intOf v).toNat)
            case atStart => exact ⟨0, rfl, Lib.hid (Nat.zero_le _), hz3, KH3⟩
            case round =>
              clear hz3 KH3
              obtain ⟨t, rfl, ht, hbel, KH⟩ := hrel
              have hsr := hbel.size
              have htl := ht.out
              have hL := HL.out
              have hx : t < (⟨(hexL h).toArray⟩ : ByteArray).size := by rw [size_mk, length_hexL, hhl]; omega
              have hy : t < (⟨(hexL g).toArray⟩ : ByteArray).size := by rw [size_mk, length_hexL, hgl]; omega
              have ht63 : t < 64 := by omega
              by_cases hlt2 : t < lcp (hexL h) (hexL g)
              · have hxy := (lcp_at (hexL h) (hexL g) t hlt2).1
                obtain ⟨x, hxx⟩ : ∃ x, (hexL h).getD t 0 = x := ⟨_, rfl⟩
                have hxe : Hid ((⟨(hexL h).toArray⟩ : ByteArray).data.toList.getD t 0 = x) := Lib.hid hxx
                have hye : Hid ((⟨(hexL g).toArray⟩ : ByteArray).data.toList.getD t 0 = x) := Lib.hid (hxy.symm.trans hxx)
                clear hxx
                have hqq : ((x.toNat : Int) == (x.toNat : Int)) = true := by simp
                clear hxy hL htl
                go_wp2
                refine region_grown (by kernel_rfl) (by kernel_rfl) ?_
                refine qs_move (v := (.string ⟨(hexL h).toArray⟩)) (by kernel_rfl) (by kernel_rfl) ?_
                refine qs_move (v := (.int .i64 (t : Int))) (by kernel_rfl) (by kernel_rfl) ?_
                refine qs_at (j := t) (k := .i64) (c := x) str9 hx hxe.out (by kernel_rfl) (by kernel_rfl) (by kernel_rfl) ?_
                refine qs_move (v := (.string ⟨(hexL g).toArray⟩)) (by kernel_rfl) (by kernel_rfl) ?_
                refine qs_move (v := (.int .i64 (t : Int))) (by kernel_rfl) (by kernel_rfl) ?_
                refine qs_at (j := t) (k := .i64) (c := x) str9 hy hye.out (by kernel_rfl) (by kernel_rfl) (by kernel_rfl) ?_
                refine qs_eql_int (k := .u8) (m := (x.toNat : Int)) (n := (x.toNat : Int)) (r := true) (by kernel_rfl) (by kernel_rfl) (by kernel_rfl) hqq ?_
                refine wpQuiet_nil ?_
                intro wq hwq
                simp only [Act.put, Exit.then, List.setIfInBounds_toArray, List.set_cons_succ, List.set_cons_zero]
                go_wp2
                go_roundw
                case rel => exact ⟨t + 1, by go_num, Lib.hid (by omega), hbel.trans (hwq.mono hsr), KH.below hwq KH.lt⟩
                case measure => simp [intOf]; omega
              · obtain rfl : t = lcp (hexL h) (hexL g) := by omega
                have hne := hL.2
                generalize hT : lcp (hexL h) (hexL g) = t at *
                obtain ⟨x, hxx⟩ : ∃ x, (hexL h).getD t 0 = x := ⟨_, rfl⟩
                obtain ⟨y, hyy⟩ : ∃ y, (hexL g).getD t 0 = y := ⟨_, rfl⟩
                have hxe : Hid ((⟨(hexL h).toArray⟩ : ByteArray).data.toList.getD t 0 = x) := Lib.hid hxx
                have hye : Hid ((⟨(hexL g).toArray⟩ : ByteArray).data.toList.getD t 0 = y) := Lib.hid hyy
                rw [hxx, hyy] at hne
                clear hxx hyy
                have hqq : ((x.toNat : Int) == (y.toNat : Int)) = false := by
                  rw [beq_eq_false_iff_ne]; intro e; exact hne (UInt8.toNat_inj.1 (by omega))
                have hl64 := hL.1
                have hmx : max (m : Int) ((t : Int) + 1) = ((max m (t + 1) : Nat) : Int) := by omega
                clear hne hL htl hlt2
                go_wp2
                refine region_grown (by kernel_rfl) (by kernel_rfl) ?_
                refine qs_move (v := (.string ⟨(hexL h).toArray⟩)) (by kernel_rfl) (by kernel_rfl) ?_
                refine qs_move (v := (.int .i64 (t : Int))) (by kernel_rfl) (by kernel_rfl) ?_
                refine qs_at (j := t) (k := .i64) (c := x) str9 hx hxe.out (by kernel_rfl) (by kernel_rfl) (by kernel_rfl) ?_
                refine qs_move (v := (.string ⟨(hexL g).toArray⟩)) (by kernel_rfl) (by kernel_rfl) ?_
                refine qs_move (v := (.int .i64 (t : Int))) (by kernel_rfl) (by kernel_rfl) ?_
                refine qs_at (j := t) (k := .i64) (c := y) str9 hy hye.out (by kernel_rfl) (by kernel_rfl) (by kernel_rfl) ?_
                refine qs_eql_int (k := .u8) (m := (x.toNat : Int)) (n := (y.toNat : Int)) (r := false) (by kernel_rfl) (by kernel_rfl) (by kernel_rfl) hqq ?_
                refine wpQuiet_nil ?_
                intro wq hwq
                simp only [Act.put, Exit.then, List.setIfInBounds_toArray, List.set_cons_succ, List.set_cons_zero]
                go_wp2
                go_roundw
                case rel => exact ⟨j + 1, max m (t + 1), by omega, by go_num, rfl, by omega, hbel.trans (hwq.mono hsr), KH.below hwq KH.lt, HR⟩
                case measure => simp [intOf]; omega
        · obtain rfl : j = k := by omega
          have hR := hr.out
          rw [show (l.take j).drop j = [] from List.drop_eq_nil_of_le (by simp; omega), leadJ] at hR
          have HR := Lib.hid hR
          clear hr hR
          go_wp2
          go_roundw
          case rel => exact ⟨j + 1, m, by omega, by go_num, rfl, hm, hbel, HR⟩
          case measure => simp [intOf]; omega
    · obtain rfl : k = l.length := by omega
      have hR := hr.out
      rw [List.drop_length, leadI] at hR
      subst hR
      clear hr
      go_wp2
      go_ret
      exact ⟨rfl, hbel⟩
end Go.Proofs.Ytdanbjpfojgmiaa.Dg
