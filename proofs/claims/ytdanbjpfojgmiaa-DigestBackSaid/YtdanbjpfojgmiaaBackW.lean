/- The walk of estuarylaw01.DigestBack. -/
import Derived.Test.YtdanbjpfojgmiaaBkW
import Derived.Test.YtdanbjpfojgmiaaPl
import Derived.Test.YtdanbjpfojgmiaaBackP
namespace Go.Proofs.Ytdanbjpfojgmiaa.Dg
open Go.RowKit Mem Ops

theorem tupR_10 (s : ByteArray) (w : World) (hs : s.size ≤ 140737488351232) (R : List UInt8 × Int × Int) (h : unhexR s.data.toList = R) : Calls Try.prog 10 #[.string s] w (TupR R w) := h ▸ unhex_calls s w hs

set_option maxRecDepth 100000 in
set_option maxHeartbeats 1000000 in
theorem back_law (h : List UInt8) (s : ByteArray) (w : World) (hh : h.length = 32) (hs : s.size ≤ 140737488351232) :
    Calls Try.prog 4 #[.agg (bytesU h).toArray, .string s] w fun e w' => e = .returned (.bool true) ∧ Below w.heap.size w w' := by
  have hA : (bytesU h).toArray.size = 32 := by simp [hh]
  have hX : (⟨(hexL h).toArray⟩ : ByteArray).size = 64 := by rw [size_mk, length_hexL, hh]
  have hU : unhexR (⟨(hexL h).toArray⟩ : ByteArray).data.toList = (h, 0, 0) := unhex_hex h hh
  have hsh : (⟨(shortR h 64).toArray⟩ : ByteArray) = ⟨(hexL h).toArray⟩ := by
    rw [shortR, List.take_of_length_le (by rw [length_hexL, hh]; decide)]
  have c10 : ∀ w, Calls Try.prog 10 #[.string ⟨(hexL h).toArray⟩] w (TupR (h, 0, 0) w) := fun w => tupR_10 _ w (by rw [hX]; decide) _ hU
  have c9 : ∀ w, Calls Try.prog 9 #[.agg (bytesU h).toArray] w fun e w' => e = .returned (.string ⟨(hexL h).toArray⟩) ∧ Below w.heap.size w w' := fun w => hex_calls h w hh
  have C10 := Lib.hid c10
  have C9 := Lib.hid c9
  have C11 : Hid (∀ w, Calls Try.prog 11 #[.agg (bytesU h).toArray, .int .i64 64] w fun e w' => e = .returned (.string ⟨(hexL h).toArray⟩) ∧ Below w.heap.size w w') := fun w => by
    have := short_calls h 64 w hh
    unfold StrR at this
    rwa [hsh] at this
  have HU := Lib.hid hU
  clear c9 c10 hU hsh
  generalize hXe : (⟨(hexL h).toArray⟩ : ByteArray) = X at *
  clear hXe
  have hz : (bytesU (zerosL 32)).toArray.size = 32 := by simp [zerosL]
  go_enter Try.func4, Try.ntmps4
  go_upto_region 3 with (first
    | ((with_reducible refine pl_load_arr (b := w.heap.size) (cs := (bytesU h).toArray) arr27 (Blk.new _ _ _) ?_ ?_ hA ?_); (· rfl); (· rfl))
    | (go_at_call 9; refine (C9.out _).mono ?_; rintro e w1 ⟨rfl, hb1⟩)
    | (go_at_call 10; refine (C10.out _).mono ?_; rintro e w2 ⟨rfl, hb2⟩)
    | ((with_reducible refine pl_alloc_arr arr27 ?_ ?_); (· rfl))
    | ((with_reducible refine pl_store_arr (cs := (bytesU h).toArray) arr27 (Blk.new _ _ _) ?_ ?_ ?_ hz hA (one_bytesU _) ?_); (· rfl); (· rfl); (· rfl)))
  have t1 := hb1.size
  have t2 := hb2.size
  have t0 : (w.alloc (.cells (bytesU h).toArray 27)).heap.size = w.heap.size + 1 := by simp
  have K0 := ((((Blk.new w (bytesU h).toArray 27).below hb1 (by omega)).below hb2 (by omega)).alloc (.cells (bytesU (zerosL 32)).toArray 27)).setRow_far (k := w2.heap.size) (by omega) (bytesU h).toArray
  have K6 := (Blk.new w2 (bytesU (zerosL 32)).toArray 27).setRow (bytesU h).toArray
  have hbel : Below w.heap.size w ((w2.alloc (.cells (bytesU (zerosL 32)).toArray 27)).setRow w2.heap.size (bytesU h).toArray) :=
    below_setRow (((((Below.refl _ w).alloc (Nat.le_refl _) _).trans (hb1.mono (by omega))).trans (hb2.mono (by omega))).alloc (by omega) _) (by omega) _
  have hlt : w2.heap.size < ((w2.alloc (.cells (bytesU (zerosL 32)).toArray 27)).setRow w2.heap.size (bytesU h).toArray).heap.size := K6.lt
  have hge : w.heap.size ≤ w2.heap.size := by omega
  generalize ((w2.alloc (.cells (bytesU (zerosL 32)).toArray 27)).setRow w2.heap.size (bytesU h).toArray) = wz at *
  generalize w2.heap.size = B6 at *
  clear hb1 hb2 t1 t2 t0
  have hqq : (!(h == h)) = false := by simp
  go_wp2_with (first
    | ((with_reducible refine pl_load_arr (b := w.heap.size) (cs := (bytesU h).toArray) arr27 K0 ?_ ?_ hA ?_); (· rfl); (· rfl))
    | ((with_reducible refine pl_load_arr (b := B6) (cs := (bytesU h).toArray) arr27 K6 ?_ ?_ hA ?_); (· rfl); (· rfl))
    | ((with_reducible refine pl_neq_arr arr27 h h hqq hh hh ?_ ?_ ?_ ?_); (· rfl); (· rfl); (· rfl))
    | (go_at_call 11; refine (C11.out _).mono ?_; rintro e w3 ⟨rfl, hb3⟩)
)
  generalize hR : unhexR s.data.toList = R at *
  have cs10 := tupR_10 s w3 hs R hR
  have hRl : R.1.length = 32 := by rw [← hR]; exact length_unhexR _
  have hRA : (bytesU R.1).toArray.size = 32 := by simp [hRl]
  have hRh : R.2.1 = 0 → (⟨(hexL R.1).toArray⟩ : ByteArray) = s := fun he => by
    have := hex_unhex s.data.toList (by rw [hR]; exact he)
    rw [hR] at this
    rw [this]
  have HR := Lib.hid hR
  have Hh := Lib.hid hRh
  clear hR hRh
  refine cs10.mono ?_
  rintro e w4 ⟨rfl, hb4⟩
  have K6' := (K6.below hb3 hlt).below hb4 (by have := hb3.size; omega)
  have hb34 : Below w.heap.size w w4 := (hbel.trans (hb3.mono hbel.size)).trans (hb4.mono (Nat.le_trans hbel.size hb3.size))
  have K7 := K6'.setRow (bytesU R.1).toArray
  clear cs10 hb3 hb4 K0 K6 hbel
  by_cases he : R.2.1 = 0
  · have hne : (R.2.1 != 0) = false := by simp [he]
    have hs9 := hex_calls R.1
    have hXs := Hh.out he
    have C9' : Hid (∀ w, Calls Try.prog 9 #[.agg (bytesU R.1).toArray] w fun e w' => e = .returned (.string s) ∧ Below w.heap.size w w') := fun w => by
      have := hex_calls R.1 w hRl
      unfold StrR at this
      rwa [hXs] at this
    clear he hs9 hXs
    go_wp2_with (first
      | ((with_reducible refine pl_store_arr (cs := (bytesU R.1).toArray) arr27 K6' ?_ ?_ ?_ hA hRA (one_bytesU _) ?_); (· rfl); (· rfl); (· rfl))
      | ((with_reducible refine pl_load_arr (b := B6) (cs := (bytesU R.1).toArray) arr27 K7 ?_ ?_ hRA ?_); (· rfl); (· rfl))
      | (go_at_call 9; refine (C9'.out _).mono ?_; rintro e w5 ⟨rfl, hb5⟩))
    go_ret
    exact ⟨rfl, (below_setRow hb34 hge _).trans (hb5.mono (below_setRow hb34 hge _).size)⟩
  · have hne : (R.2.1 != 0) = true := by simp [he]
    clear he
    go_wp2_with (first
      | ((with_reducible refine pl_store_arr (cs := (bytesU R.1).toArray) arr27 K6' ?_ ?_ ?_ hA hRA (one_bytesU _) ?_); (· rfl); (· rfl); (· rfl)))
    go_ret
    exact ⟨rfl, below_setRow hb34 hge _⟩
end Go.Proofs.Ytdanbjpfojgmiaa.Dg
