/- The walks of estuarylaw01.DigestBack and DigestDigits. -/
import Derived.Test.YtdanbjpfojgmiaaCmpW
import Derived.Test.YtdanbjpfojgmiaaUnRW
import Derived.Test.YtdanbjpfojgmiaaQz
import Derived.Test.YtdanbjpfojgmiaaAh
namespace Go.Proofs.Ytdanbjpfojgmiaa.Dg
open Go.RowKit Mem Ops
attribute [local irreducible] wpQuiet wpAnyH

theorem fn9 : IsFn Try.prog 9 Try.f9 := ⟨Try.func9, by decide, rfl⟩
theorem fn11 : IsFn Try.prog 11 Try.f11 := ⟨Try.func11, by decide, rfl⟩
theorem fn13 : IsFn Try.prog 13 Try.f13 := ⟨Try.func13, by decide, rfl⟩
theorem fn14 : IsFn Try.prog 14 Try.f14 := ⟨Try.func14, by decide, rfl⟩
theorem fn15 : IsFn Try.prog 15 Try.f15 := ⟨Try.func15, by decide, rfl⟩
theorem fn16 : IsFn Try.prog 16 Try.f16 := ⟨Try.func16, by decide, rfl⟩

theorem length_unL (s : List UInt8) : ∀ (n k : Nat) (h : List UInt8), h.length = 32 → (unL s n k h).1.length = 32
  | 0, k, h, hh => by rw [unL]; split <;> simp [z32, hh]
  | n + 1, k, h, hh => by
    rw [unL]
    split
    · split
      · simp [z32]
      · exact length_unL s n (k + 1) _ (by rw [length_stepH, hh])
    · simp [z32]
theorem length_unhexR (s : List UInt8) : (unhexR s).1.length = 32 := length_unL s 64 0 z32 (by simp [z32])
theorem fld35a : FieldIs Try.prog 35 0 0 := fieldIs (n := 31) Try.underlying35 rfl (by kernel_rfl) rfl
theorem fld35b : FieldIs Try.prog 35 1 32 := fieldIs (n := 31) Try.underlying35 rfl (by kernel_rfl) rfl

/-- Two new hashes lie there. -/
def TwoNew (a b : List UInt8) (w : World) (v7 v8 : Value) (wx : World) : Prop :=
  ∃ g1 g2, v7 = .pointer (some ⟨g1, 0, none⟩) ∧ v8 = .pointer (some ⟨g2, 0, none⟩) ∧ Blk wx g1 (bytesU a).toArray 27 ∧ Blk wx g2 (bytesU b).toArray 27 ∧ Below w.heap.size w wx

set_option maxRecDepth 100000 in
set_option maxHeartbeats 1000000 in
theorem digits_law (a b : List UInt8) (s : ByteArray) (n : Int) (w : World) (ha : a.length = 32) (hb : b.length = 32) (hs : s.size ≤ 140737488351232) :
    Calls Try.prog 5 #[.agg (bytesU (a ++ b)).toArray, .string s, .int .i64 n] w fun e w' => e = .returned (.bool true) ∧ Below w.heap.size w w' := by
  obtain ⟨X, hX⟩ : ∃ X, X = (bytesU (a ++ b)).toArray := ⟨_, rfl⟩
  have HX := Lib.hid hX
  rw [← hX]
  clear hX
  generalize hR : unhexR s.data.toList = R
  have HR := Lib.hid hR
  clear hR
  go_enter Try.func5, Try.ntmps5
  go_upto_region 1 with fail
  go_cut [7, 8] (fun v7 v8 wx => TwoNew a b w v7 v8 wx)
  case first =>
    obtain ⟨w0, hw0⟩ : ∃ w0, w0 = w.alloc (.cells X 35) := ⟨_, rfl⟩
    have hB : Blk w0 w.heap.size X 35 := by rw [hw0]; exact Blk.new _ _ _
    have hbel : Below w.heap.size w w0 := by rw [hw0]; exact (Below.refl _ _).alloc (Nat.le_refl _) _
    have hgt : w.heap.size < w0.heap.size := hB.lt
    rw [← hw0]
    clear hw0
    refine wp_region_held (S := Ext w0) (by kernel_rfl) ?_
    have hg0 := Ext.drawn w0
    have e1 : X.extract 0 (0 + 32) = (bytesU a).toArray := by rw [HX.out]; simp [bytesU_append, ha]
    have e2 : X.extract 32 (32 + 32) = (bytesU b).toArray := by rw [HX.out]; simp [bytesU_append, ha, List.take_of_length_le (show (bytesU b).length ≤ 32 by simp [hb])]
    have e3 : X.size = 64 := by rw [HX.out]; simp [ha, hb]
    refine ah_take (o := ⟨some 15, _, _, _, _, _⟩) 0 rfl (by kernel_rfl) (by kernel_rfl) (by kernel_rfl) (fun _ _ _ h => h) rfl (fun w' _ => rl_field fld35a rfl) hg0 ?_
    refine ah_take (o := ⟨some 16, _, _, _, _, _⟩) 1 rfl (by kernel_rfl) (by kernel_rfl) (by kernel_rfl) (fun _ _ _ h => h) rfl (fun w' hw' => rl_load_part arr27 (hB.below hw' hgt) rfl e1 (by omega)) hg0 ?_
    refine ah_take (o := ⟨some 17, _, _, _, _, _⟩) 2 rfl (by kernel_rfl) (by kernel_rfl) (by kernel_rfl) (fun _ _ _ h => h) rfl (fun w' _ => rl_field fld35b rfl) hg0 ?_
    refine ah_take (o := ⟨some 18, _, _, _, _, _⟩) 3 rfl (by kernel_rfl) (by kernel_rfl) (by kernel_rfl) (fun _ _ _ h => h) rfl (fun w' hw' => rl_load_part arr27 (hB.below hw' hgt) rfl e2 (by omega)) hg0 ?_
    have sa : (Try.prog.info? 27).map (·.size) = some (bytesU a).toArray.size := by rw [arr27.size]; simp [ha]
    have sb : (Try.prog.info? 27).map (·.size) = some (bytesU b).toArray.size := by rw [arr27.size]; simp [hb]
    have za : (bytesU (zerosL 32)).toArray.size = (bytesU a).toArray.size := by simp [zerosL, ha]
    have zb : (bytesU (zerosL 32)).toArray.size = (bytesU b).toArray.size := by simp [zerosL, hb]
    generalize ({ w0 with drawn := w0.drawn + 1 } : World) = w1 at *
    have g2 := hg0.alloc hg0.size (.cells (bytesU (zerosL 32)).toArray 27)
    have k2 := Blk.new w1 (bytesU (zerosL 32)).toArray 27
    have g3 := g2.alloc g2.size (.cells (bytesU (zerosL 32)).toArray 27)
    have k3 := Blk.new (w1.alloc (.cells (bytesU (zerosL 32)).toArray 27)) (bytesU (zerosL 32)).toArray 27
    have k3' := k2.alloc (.cells (bytesU (zerosL 32)).toArray 27)
    have hlt := k2.lt
    have hw1 := hg0.size
    have key : ∀ (A B : List UInt8) (g h : Nat) (w3 : World), g ≠ h → w0.heap.size ≤ g → w0.heap.size ≤ h → Ext w0 w3 → Blk w3 g (bytesU (zerosL 32)).toArray 27 → Blk w3 h (bytesU (zerosL 32)).toArray 27 →
        Ext w0 (w3.setRow g (bytesU A).toArray) ∧ Blk (w3.setRow g (bytesU A).toArray) h (bytesU (zerosL 32)).toArray 27 ∧ Ext w0 ((w3.setRow g (bytesU A).toArray).setRow h (bytesU B).toArray) ∧
        Blk ((w3.setRow g (bytesU A).toArray).setRow h (bytesU B).toArray) g (bytesU A).toArray 27 ∧ Blk ((w3.setRow g (bytesU A).toArray).setRow h (bytesU B).toArray) h (bytesU B).toArray 27 := by
      intro A B g h w3 hgh hg hh e3 kg kh
      exact ⟨below_setRow e3 hg _, kh.setRow_far (Ne.symm hgh) _, below_setRow (below_setRow e3 hg _) hh _, (kg.setRow _).setRow_far hgh _, (kh.setRow_far (Ne.symm hgh) _).setRow _⟩
    refine ah_two 4 5 (by kernel_rfl) ?_ ?_
    · refine op_value (o := ⟨some 7, _, _, _, _, _⟩) rfl rfl (rl_alloc_arr arr27) ?_
      refine ⟨g2, ah_one (o := ⟨some 8, _, _, _, _, _⟩) 5 (by kernel_rfl) rfl rfl (rl_alloc_arr arr27) g3 ?_⟩
      obtain ⟨q1, q2, q3, q4, q5⟩ := key a b w1.heap.size (w1.alloc (.cells (bytesU (zerosL 32)).toArray 27)).heap.size _ (by omega) (by omega) (by omega) g3 k3' k3
      refine ah_skip1 (o := ⟨none, _, _, _, _, _⟩) 6 (by kernel_rfl) rfl (by kernel_rfl) (rl_store_row (cs := (bytesU a).toArray) (by kernel_rfl) (by kernel_rfl) k3' sa za (one_bytesU _)) q1 ?_
      refine ah_skip1 (o := ⟨none, _, _, _, _, _⟩) 7 (by kernel_rfl) rfl (by kernel_rfl) (rl_store_row (cs := (bytesU b).toArray) (by kernel_rfl) (by kernel_rfl) q2 sb zb (one_bytesU _)) q3 ?_
      refine wpAnyH_done (by kernel_rfl) ?_ _
      go_wp2_with fail
      go_meet
      case rel => exact ⟨_, _, rfl, rfl, q4, q5, hbel.trans (q3.mono (by omega))⟩
    · refine op_value (o := ⟨some 8, _, _, _, _, _⟩) rfl rfl (rl_alloc_arr arr27) ?_
      refine ⟨g2, ah_one (o := ⟨some 7, _, _, _, _, _⟩) 4 (by kernel_rfl) rfl rfl (rl_alloc_arr arr27) g3 ?_⟩
      obtain ⟨q1, q2, q3, q4, q5⟩ := key a b (w1.alloc (.cells (bytesU (zerosL 32)).toArray 27)).heap.size w1.heap.size _ (by omega) (by omega) (by omega) g3 k3 k3'
      refine ah_skip1 (o := ⟨none, _, _, _, _, _⟩) 6 (by kernel_rfl) rfl (by kernel_rfl) (rl_store_row (cs := (bytesU a).toArray) (by kernel_rfl) (by kernel_rfl) k3 sa za (one_bytesU _)) q1 ?_
      refine ah_skip1 (o := ⟨none, _, _, _, _, _⟩) 7 (by kernel_rfl) rfl (by kernel_rfl) (rl_store_row (cs := (bytesU b).toArray) (by kernel_rfl) (by kernel_rfl) q2 sb zb (one_bytesU _)) q3 ?_
      refine wpAnyH_done (by kernel_rfl) ?_ _
      go_wp2_with fail
      go_meet
      case rel => exact ⟨_, _, rfl, rfl, q4, q5, hbel.trans (q3.mono (by omega))⟩
  case rest =>
    obtain ⟨g1, g2, rfl, rfl, k1, k2, hbel⟩ := hcut
    have hRl : R.1.length = 32 := by rw [← HR.out]; exact length_unhexR _
    have sR : (Try.prog.info? 27).map (·.size) = some (bytesU R.1).toArray.size := by rw [arr27.size]; simp [hRl]
    have c10 : ∀ w, Calls Try.prog 10 #[.string s] w (TupR R w) := fun w => HR.out ▸ unhex_calls s w hs
    have c12 : ∀ w, Calls Try.prog 12 #[.string s] w (TupR R w) := fun w => HR.out ▸ unhexRef_calls s w hs
    have C10 := Lib.hid c10
    have C12 := Lib.hid c12
    clear c10 c12
    go_wp2_with (first
      | (go_at_call 10; refine (C10.out _).mono ?_; rintro e w1 ⟨rfl, hb1⟩)
      | (go_at_call 12; refine (C12.out _).mono ?_; rintro e w2 ⟨rfl, hb2⟩)
      | (with_reducible refine step_alloc arr27.zeroIs ?_)
      | ((with_reducible refine step_store_row (t := 27) (old := Array.replicate 32 (.int .u8 0)) (cs := (bytesU R.1).toArray) (T := 27) ?_ ?_ (Blk.new _ _ _) sR ?_ (one_bytesU _) ?_); (· rfl); (· rfl); (· simp [hRl])))
    have l1 := k1.lt
    have l2 := k2.lt
    have s1 := hb1.size
    have K1 := (((((k1.below hb1 k1.lt).alloc (.cells (Array.replicate 32 (.int .u8 0)) 27)).setRow_far (k := w1.heap.size) (by omega) (bytesU R.1).toArray).below hb2 (by simp; omega)).alloc (.cells (Array.replicate 32 (.int .u8 0)) 27)).setRow_far (k := w2.heap.size) (by have := hb2.size; simp at this; omega) (bytesU R.1).toArray
    have K2 := (((((k2.below hb1 k2.lt).alloc (.cells (Array.replicate 32 (.int .u8 0)) 27)).setRow_far (k := w1.heap.size) (by omega) (bytesU R.1).toArray).below hb2 (by simp; omega)).alloc (.cells (Array.replicate 32 (.int .u8 0)) 27)).setRow_far (k := w2.heap.size) (by have := hb2.size; simp at this; omega) (bytesU R.1).toArray
    have K9 := ((((Blk.new w1 (Array.replicate 32 (.int .u8 0)) 27).setRow (bytesU R.1).toArray).below hb2 (by simp)).alloc (.cells (Array.replicate 32 (.int .u8 0)) 27)).setRow_far (k := w2.heap.size) (by have := hb2.size; simp at this; omega) (bytesU R.1).toArray
    have K12 := (Blk.new w2 (Array.replicate 32 (.int .u8 0)) 27).setRow (bytesU R.1).toArray
    have hz : Below w.heap.size w ((w2.alloc (.cells (Array.replicate 32 (.int .u8 0)) 27)).setRow w2.heap.size (bytesU R.1).toArray) := by
      have t0 := hbel.size
      have t1 := hb1.size
      have t2 := hb2.size
      simp at t2
      exact below_setRow (((below_setRow ((hbel.trans (hb1.mono t0)).alloc (by omega) _) (by omega) _).trans (hb2.mono (by simp; omega))).alloc (by omega) _) (by omega) _
    generalize ((w2.alloc (.cells (Array.replicate 32 (.int .u8 0)) 27)).setRow w2.heap.size (bytesU R.1).toArray) = wz at *
    refine region_grown (by kernel_rfl) (by kernel_rfl) ?_
    refine qs_load_arr (cs := (bytesU a).toArray) (by kernel_rfl) arr27 K1 (by kernel_rfl) (by simp [ha]) ?_
    refine qs_call fn9 (vs := #[.agg (bytesU a).toArray]) (v := .string ⟨(hexL a).toArray⟩) (by kernel_rfl) (by kernel_rfl) (fun w' hw' => (hex_calls a w' ha).mono fun _ _ h => ⟨h.1, hw'.next h.2⟩) ?_
    refine qs_load_arr (cs := (bytesU a).toArray) (by kernel_rfl) arr27 K1 (by kernel_rfl) (by simp [ha]) ?_
    refine qs_call fn13 (vs := #[.agg (bytesU a).toArray]) (v := .string ⟨(hexL a).toArray⟩) (by kernel_rfl) (by kernel_rfl) (fun w' hw' => (hexRef_calls a w' ha).mono fun _ _ h => ⟨h.1, hw'.next h.2⟩) ?_
    refine qs_eql_str (s := ⟨(hexL a).toArray⟩) (u := ⟨(hexL a).toArray⟩) (r := true) (by kernel_rfl) (by kernel_rfl) (by kernel_rfl) (by simp) ?_
    refine qs_move (v := .bool true) (by kernel_rfl) (by kernel_rfl) ?_
    refine qs_load_arr (cs := (bytesU R.1).toArray) (by kernel_rfl) arr27 K9 (by kernel_rfl) (by simp [hRl]) ?_
    refine qs_load_arr (cs := (bytesU R.1).toArray) (by kernel_rfl) arr27 K12 (by kernel_rfl) (by simp [hRl]) ?_
    refine qs_eql_arr arr27 R.1 R.1 (r := true) (by simp) hRl hRl (by kernel_rfl) (by kernel_rfl) (by kernel_rfl) ?_
    refine qs_pick (b := true) (v := .bool true) (by kernel_rfl) (by kernel_rfl) (by kernel_rfl) ?_
    refine qs_move (v := .bool true) (by kernel_rfl) (by kernel_rfl) ?_
    refine qs_move (v := .int .i64 R.2.1) (by kernel_rfl) (by kernel_rfl) ?_
    refine qs_move (v := .int .i64 R.2.1) (by kernel_rfl) (by kernel_rfl) ?_
    refine qs_eql_int (k := .i64) (m := R.2.1) (n := R.2.1) (r := true) (by kernel_rfl) (by kernel_rfl) (by kernel_rfl) (by simp) ?_
    refine qs_pick (b := true) (v := .bool true) (by kernel_rfl) (by kernel_rfl) (by kernel_rfl) ?_
    refine qs_move (v := .bool true) (by kernel_rfl) (by kernel_rfl) ?_
    refine qs_move (v := .int .i64 R.2.2) (by kernel_rfl) (by kernel_rfl) ?_
    refine qs_move (v := .int .i64 R.2.2) (by kernel_rfl) (by kernel_rfl) ?_
    refine qs_eql_int (k := .i64) (m := R.2.2) (n := R.2.2) (r := true) (by kernel_rfl) (by kernel_rfl) (by kernel_rfl) (by simp) ?_
    refine qs_pick (b := true) (v := .bool true) (by kernel_rfl) (by kernel_rfl) (by kernel_rfl) ?_
    refine qs_move (v := .bool true) (by kernel_rfl) (by kernel_rfl) ?_
    refine qs_load_arr (cs := (bytesU a).toArray) (by kernel_rfl) arr27 K1 (by kernel_rfl) (by simp [ha]) ?_
    refine qs_move (v := .int .i64 n) (by kernel_rfl) (by kernel_rfl) ?_
    refine qs_call fn11 (vs := #[.agg (bytesU a).toArray, .int .i64 n]) (v := .string ⟨(shortR a n).toArray⟩) (by kernel_rfl) (by kernel_rfl) (fun w' hw' => (short_calls a n w' ha).mono fun _ _ h => ⟨h.1, hw'.next h.2⟩) ?_
    refine qs_load_arr (cs := (bytesU a).toArray) (by kernel_rfl) arr27 K1 (by kernel_rfl) (by simp [ha]) ?_
    refine qs_move (v := .int .i64 n) (by kernel_rfl) (by kernel_rfl) ?_
    refine qs_call fn14 (vs := #[.agg (bytesU a).toArray, .int .i64 n]) (v := .string ⟨(shortR a n).toArray⟩) (by kernel_rfl) (by kernel_rfl) (fun w' hw' => (shortRef_calls a n w' ha).mono fun _ _ h => ⟨h.1, hw'.next h.2⟩) ?_
    refine qs_eql_str (s := ⟨(shortR a n).toArray⟩) (u := ⟨(shortR a n).toArray⟩) (r := true) (by kernel_rfl) (by kernel_rfl) (by kernel_rfl) (by simp) ?_
    refine qs_pick (b := true) (v := .bool true) (by kernel_rfl) (by kernel_rfl) (by kernel_rfl) ?_
    refine qs_move (v := .bool true) (by kernel_rfl) (by kernel_rfl) ?_
    refine qs_load_arr (cs := (bytesU a).toArray) (by kernel_rfl) arr27 K1 (by kernel_rfl) (by simp [ha]) ?_
    refine qs_load_arr (cs := (bytesU b).toArray) (by kernel_rfl) arr27 K2 (by kernel_rfl) (by simp [hb]) ?_
    refine qs_call fn15 (vs := #[.agg (bytesU a).toArray, .agg (bytesU b).toArray]) (v := .int .i64 (cmpR a b)) (by kernel_rfl) (by kernel_rfl) (fun w' hw' => (compare_calls a b w' ha hb).mono fun _ _ h => ⟨h.1, hw'.next h.2⟩) ?_
    refine qs_load_arr (cs := (bytesU a).toArray) (by kernel_rfl) arr27 K1 (by kernel_rfl) (by simp [ha]) ?_
    refine qs_load_arr (cs := (bytesU b).toArray) (by kernel_rfl) arr27 K2 (by kernel_rfl) (by simp [hb]) ?_
    refine qs_call fn16 (vs := #[.agg (bytesU a).toArray, .agg (bytesU b).toArray]) (v := .int .i64 (cmpR a b)) (by kernel_rfl) (by kernel_rfl) (fun w' hw' => (compareRef_calls a b w' ha hb).mono fun _ _ h => ⟨h.1, hw'.next h.2⟩) ?_
    refine qs_eql_int (k := .i64) (m := (cmpR a b)) (n := (cmpR a b)) (r := true) (by kernel_rfl) (by kernel_rfl) (by kernel_rfl) (by simp) ?_
    refine qs_pick (b := true) (v := .bool true) (by kernel_rfl) (by kernel_rfl) (by kernel_rfl) ?_
    refine qs_assign (v := .bool true) (by kernel_rfl) (by kernel_rfl) ?_
    refine wpQuiet_nil ?_
    intro w' hw'
    go_wp2_with fail
    go_ret
    exact ⟨by kernel_rfl, hz.trans (hw'.mono hz.size)⟩
end Go.Proofs.Ytdanbjpfojgmiaa.Dg
