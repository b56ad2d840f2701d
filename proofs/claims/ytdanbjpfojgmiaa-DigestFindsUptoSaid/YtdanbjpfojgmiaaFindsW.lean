/- The walk of estuarylaw01.DigestFinds. -/
import Derived.Test.YtdanbjpfojgmiaaKeptW
import Derived.Test.YtdanbjpfojgmiaaLeadW
import Derived.Test.YtdanbjpfojgmiaaLeadRW
import Derived.Test.YtdanbjpfojgmiaaFindW
namespace Go.Proofs.Ytdanbjpfojgmiaa.Dg
open Go.RowKit Mem Ops

theorem length_findR (p : List UInt8) : ∀ (l : List (List UInt8)) (f : Option (List UInt8)), (∀ h ∈ l, h.length = 32) → (∀ g, f = some g → g.length = 32) → (findR p l f).1.length = 32
  | [], none, _, _ => by simp [findR, z32]
  | [], some g, _, hf => hf g rfl
  | h :: l, f, hl, hf => by
    have h1 := hl h (by simp)
    have h2 : ∀ x ∈ l, x.length = 32 := fun x hx => hl x (by simp [hx])
    have h3 : ∀ g, some h = some g → g.length = 32 := fun g hg => by cases hg; exact h1
    rw [findR_cons]
    split
    · split
      · split
        · exact length_findR p l _ h2 h3
        · simp [z32]
      · exact length_findR p l _ h2 h3
    · exact length_findR p l _ h2 hf
theorem length_findAll (p : List UInt8) (l : List (List UInt8)) (hl : ∀ h ∈ l, h.length = 32) : (findAll p l).1.length = 32 := by
  rw [findAll]
  split
  · simp [z32]
  · exact length_findR p l none hl (fun g h => by cases h)

set_option maxRecDepth 100000 in
set_option maxHeartbeats 4000000 in
theorem finds_law (p : ByteArray) (a : Option Addr) (l : List (List UInt8)) (n cap : Nat) (w : World) (hp : p.size ≤ 140737488351232) (hn : n = l.length) (hl : l.length ≤ 8000000000000) (hH : Hs w a l) :
    Calls Try.prog 6 #[.string p, .slice a n cap] w fun e w' => e = .returned (.bool true) ∧ Below w.heap.size w w' := by
  subst hn
  have hl2 : l.length ≤ 140737488351232 := by omega
  have hand := hand_calls a l l.length cap w rfl hl hH
  have hRl := length_findAll p.data.toList l hH.2
  have hfind := fun a n cap w h1 h2 => find_calls p a l n cap w hp h1 hl2 h2
  have hfindR := fun a n cap w h1 h2 => findRef_calls p a l n cap w hp h1 hl2 h2
  generalize findAll p.data.toList l = R at hRl hfind hfindR
  have HAND := Lib.hid hand
  have FIND := Lib.hid hfind
  have FINDR := Lib.hid hfindR
  clear hand hfind hfindR
  have r32 : (bytesU R.1).toArray.size = 32 := by simp [hRl]
  have heq : (R.1 == R.1) = true := by simp
  go_enter Try.func6, Try.ntmps6
  go_wp2_with fail
  refine HAND.out.mono ?_
  rintro e w1 ⟨a1, rfl, hs1, hb1⟩
  clear HAND
  go_wp2_with fail
  refine (FIND.out a1 _ _ w1 rfl hs1.left).mono ?_
  rintro e w2 ⟨rfl, hb2⟩
  have K6 := (Blk.new w2 (bytesU (zerosL 32)).toArray 27).setRow (bytesU R.1).toArray
  have hz2 := below_setRow ((hb1.trans (hb2.mono hb1.size)).alloc (hb1.trans (hb2.mono hb1.size)).size (.cells (bytesU (zerosL 32)).toArray 27)) (b := w2.heap.size) (hb1.trans (hb2.mono hb1.size)).size (bytesU R.1).toArray
  have hs2 := hs1.below (hb2.trans (below_setRow ((Below.refl _ w2).alloc (Nat.le_refl _) (.cells (bytesU (zerosL 32)).toArray 27)) (Nat.le_refl _) (bytesU R.1).toArray |>.mono hb2.size))
  go_wp2_with (first | ((with_reducible refine pl_alloc_arr arr27 ?_ ?_); (· rfl)) | ((with_reducible refine pl_store_arr (cs := (bytesU R.1).toArray) arr27 (Blk.new _ _ _) ?_ ?_ ?_ size_zL r32 (one_bytesU _) ?_); (· rfl); (· rfl); (· rfl)))
  generalize hwa : ((w2.alloc (.cells (bytesU (zerosL 32)).toArray 27)).setRow w2.heap.size (bytesU R.1).toArray) = wa at *
  clear hwa hs1 hb1 hb2
  generalize w2.heap.size = b6 at *
  refine (FINDR.out a _ _ wa rfl (hH.below hz2)).mono ?_
  rintro e w3 ⟨rfl, hb3⟩
  clear FIND FINDR
  have l6 := K6.lt
  replace K6 := K6.below hb3 l6
  replace hs2 := hs2.below hb3
  replace hz2 := hz2.trans (hb3.mono hz2.size)
  have n6 : b6 ≠ w3.heap.size := by have := K6.lt; omega
  have K8 := (Blk.new w3 (bytesU (zerosL 32)).toArray 27).setRow (bytesU R.1).toArray
  have K6' := (K6.alloc (.cells (bytesU (zerosL 32)).toArray 27)).setRow_far n6 (bytesU R.1).toArray
  have hs3 := hs2.below (below_setRow ((Below.refl _ w3).alloc (Nat.le_refl _) (.cells (bytesU (zerosL 32)).toArray 27)) (b := w3.heap.size) (Nat.le_refl _) (bytesU R.1).toArray)
  have hz3 := below_setRow (hz2.alloc hz2.size (.cells (bytesU (zerosL 32)).toArray 27)) (b := w3.heap.size) hz2.size (bytesU R.1).toArray
  go_wp2_with (first | ((with_reducible refine pl_alloc_arr arr27 ?_ ?_); (· rfl)) | ((with_reducible refine pl_store_arr (cs := (bytesU R.1).toArray) arr27 (Blk.new _ _ _) ?_ ?_ ?_ size_zL r32 (one_bytesU _) ?_); (· rfl); (· rfl); (· rfl)) | ((with_reducible refine pl_load_arr (b := b6) (cs := (bytesU R.1).toArray) arr27 K6' ?_ ?_ r32 ?_); (· rfl); (· rfl)) | ((with_reducible refine pl_load_arr (b := w3.heap.size) (cs := (bytesU R.1).toArray) arr27 K8 ?_ ?_ r32 ?_); (· rfl); (· rfl)) | ((with_reducible refine pl_eql_arr arr27 R.1 R.1 heq hRl hRl ?_ ?_ ?_ ?_); (· rfl); (· rfl); (· rfl)))
  generalize hwb : ((w3.alloc (.cells (bytesU (zerosL 32)).toArray 27)).setRow w3.heap.size (bytesU R.1).toArray) = wb at *
  clear hwb hs2 hz2 K6
  generalize w3.heap.size = b8 at *
  refine (lead_calls a1 l _ _ wb rfl hl2 (by omega) hs3.left).mono ?_
  rintro e w4 ⟨rfl, hb4⟩
  have hs4 := hs3.below hb4
  have hz4 := hz3.trans (hb4.mono hz3.size)
  clear hs3 hz3 hb4 K6' K8
  go_wp2_with fail
  refine (leadRef_calls a l _ _ w4 rfl hl2 (hH.below hz4)).mono ?_
  rintro e w5 ⟨rfl, hb5⟩
  have hs5 := hs4.below hb5
  have hz5 := hz4.trans (hb5.mono hz4.size)
  clear hs4 hz4 hb5
  generalize leadR l = M
  go_wp2_with fail
  refine (kept_calls a1 a l _ _ _ _ w5 rfl rfl hl (Nat.le_refl _) hs5 (hH.below hz5)).mono ?_
  rintro e w6 ⟨rfl, hb6⟩
  go_wp2_with fail
  go_ret
  exact ⟨rfl, hz5.trans (hb6.mono hz5.size)⟩
end Go.Proofs.Ytdanbjpfojgmiaa.Dg
