/- The walk of digest.Find. -/
import Derived.Test.YtdanbjpfojgmiaaPlW
import Derived.Test.YtdanbjpfojgmiaaBkW
import Derived.Test.YtdanbjpfojgmiaaHs
namespace Go.Proofs.Ytdanbjpfojgmiaa.Dg
open Go.RowKit Mem Ops

def Tup2 (r : List UInt8 × Int) (w : World) (e : Ending) (w' : World) : Prop :=
  e = .returned (.tuple #[.agg (bytesU r.1).toArray, .int .i64 r.2]) ∧ Below w.heap.size w w'
theorem tup2_ret {fn : Func} {P : Program} {r : List UInt8 × Int} {w w' : World} {a : Act} {g : Nat} {T : TypeId} {t p : Tmp} {ty e : TypeId} {n : Nat} (h : fn.results = #[.cell p ty, .tmp t])
    (hd : a.defers = []) (hp : a.tmps.getD p undef = .pointer (some ⟨g, 0, none⟩)) (hg : Blk w' g (bytesU r.1).toArray T) (ha : ArrTy P ty e n) (hn : r.1.length = n) (ht : a.tmps.getD t undef = .int .i64 r.2)
    (hb : Below w.heap.size w w') : bodyPost P fn (Tup2 r w) .ret a w' :=
  bodyPost_ret (by rw [results_ct1 h a.tmps w' g T _ hp hg ha.arr (by rw [ha.size]; simp [hn]), ht]) hd ⟨rfl, hb⟩
theorem size_z32 : (bytesU z32).toArray.size = 32 := by simp [z32]
theorem size_zL : (bytesU (zerosL 32)).toArray.size = 32 := by simp [zerosL]
theorem z32_zL : z32 = zerosL 32 := rfl
theorem findR_cons (p h : List UInt8) (l : List (List UInt8)) (f : Option (List UInt8)) : findR p (h :: l) f = if p <+: hexL h then (match f with
      | some g => if g = h then findR p l (some h) else (z32, 11)
      | none => findR p l (some h)) else findR p l f := by cases f <;> rfl
theorem drop_consH (l : List (List UInt8)) (k : Nat) (hk : k < l.length) : l.drop k = l.getD k [] :: l.drop (k + 1) := by
  rw [List.drop_eq_getElem_cons hk]; simp [hk]

set_option maxRecDepth 100000 in
set_option maxHeartbeats 2000000 in
theorem find_calls (p : ByteArray) (a : Option Addr) (l : List (List UInt8)) (n cap : Nat) (w : World) (hp : p.size ≤ 140737488351232) (hn : n = l.length) (hl : l.length ≤ 140737488351232) (hH : Hs w a l) :
    Calls Try.prog 18 #[.string p, .slice a n cap] w (Tup2 (findAll p.data.toList l) w) := by
  subst hn
  have hplen : p.data.toList.length = p.size := rfl
  generalize hR : findAll p.data.toList l = R
  have cpl := fun w => plain_calls p w hp
  rw [findAll, hplen] at hR
  by_cases hbad : p.size > 64 ∨ plainR p.data.toList = false
  · rw [if_pos hbad] at hR
    have HR := Lib.hid hR
    clear hR
    by_cases h64 : p.size > 64
    · have c1 : (64 : Int) < (p.size : Int) := by omega
      clear hbad cpl h64
      go_enter Try.func18, Try.ntmps18
      go_wp2_with (first | ((with_reducible refine pl_alloc_arr arr27 ?_ ?_); (· rfl)) | (with_reducible refine step_build0 arr27 ?_) | ((with_reducible refine pl_store_arr (cs := (bytesU (zerosL 32)).toArray) arr27 (Blk.new _ _ _) ?_ ?_ ?_ size_zL size_zL (one_bytesU _) ?_); (· rfl); (· rfl); (· rfl)))
      ((try simp only [Exit.inBlock, Exit.then]); rw [← HR.out]; exact tup2_ret (r := (z32, 10)) rfl rfl rfl ((Blk.new _ _ _).setRow _) arr27 (by simp [z32]) rfl (below_setRow ((Below.refl _ _).alloc (Nat.le_refl _) _) (Nat.le_refl _) _))
    · have c1 : ¬ (64 : Int) < (p.size : Int) := by omega
      have hpl : plainR p.data.toList = false := hbad.resolve_left h64
      rw [hpl] at cpl
      have CPL := Lib.hid cpl
      clear hbad cpl h64 hpl
      go_enter Try.func18, Try.ntmps18
      go_wp2_with (first | ((with_reducible refine pl_alloc_arr arr27 ?_ ?_); (· rfl)) | (with_reducible refine step_build0 arr27 ?_) | ((with_reducible refine pl_store_arr (cs := (bytesU (zerosL 32)).toArray) arr27 (Blk.new _ _ _) ?_ ?_ ?_ size_zL size_zL (one_bytesU _) ?_); (· rfl); (· rfl); (· rfl)) | (go_at_call 26; refine (CPL.out _).mono ?_; rintro e w' ⟨rfl, rfl⟩))
      ((try simp only [Exit.inBlock, Exit.then]); rw [← HR.out]; exact tup2_ret (r := (z32, 10)) rfl rfl rfl ((Blk.new _ _ _).setRow _) arr27 (by simp [z32]) rfl (below_setRow ((Below.refl _ _).alloc (Nat.le_refl _) _) (Nat.le_refl _) _))
  · rw [if_neg hbad] at hR
    have c1 : ¬ (64 : Int) < (p.size : Int) := by omega
    have hpl : plainR p.data.toList = true := by
      cases hq : plainR p.data.toList with
      | true => rfl
      | false => exact absurd (Or.inr hq) hbad
    rw [hpl] at cpl
    have CPL := Lib.hid cpl
    have HR := Lib.hid hR
    clear hbad cpl hpl hR
    go_enter Try.func18, Try.ntmps18
    go_wp2_with (first | ((with_reducible refine pl_alloc_arr arr27 ?_ ?_); (· rfl)) | (go_at_call 26; refine (CPL.out _).mono ?_; rintro e w' ⟨rfl, rfl⟩))
    go_loopw [7, 21] (fun v i wr => ∃ (k : Nat) (fo : Option (List UInt8)) (g : List UInt8), k ≤ l.length ∧ i = .int .i64 k ∧ v = .bool fo.isSome ∧ (fo = none ∨ fo = some g) ∧ g.length = 32 ∧ Blk wr w.heap.size (bytesU z32).toArray 27 ∧ Blk wr (w.heap.size + 1) (bytesU g).toArray 27 ∧ Below w.heap.size w wr ∧ Hid (findR p.data.toList (l.drop k) fo = R)) (fun _ i _ => l.length - (intOf i).toNat)
    case atStart => exact ⟨0, none, z32, Nat.zero_le _, rfl, rfl, .inl rfl, by simp [z32], heap_alloc2_old _ _ _, heap_alloc2_new _ _ _, ((Below.refl _ _).alloc (Nat.le_refl _) _).alloc (by simp) _, HR⟩
    case round =>
      clear HR
      obtain ⟨k, fo, g, hk, rfl, rfl, hfo, hg, hb4, hb6, hbel, hr⟩ := hrel
      have g32 : (bytesU g).toArray.size = 32 := by simp [hg]
      by_cases hlt : k < l.length
      · obtain ⟨b, off, rfl, hb, hc⟩ := hH.addr (by omega)
        have hrk := rangeAt_below (hc k hlt) hbel hb
        have hhl := hH.len hlt
        have hR := hr.out
        rw [drop_consH l k hlt, findR_cons] at hR
        clear hr hc
        generalize l.getD k [] = h at *
        have h32 : (bytesU h).toArray.size = 32 := by simp [hhl]
        have q0 : (0 : Int) ≤ (k : Int) := by omega
        have q1 : (k : Int) < (l.length : Int) := by omega
        go_wp2_with (first | ((with_reducible refine pl_load_range (b := b) (o := off + k * 32) arr27 hrk hhl ?_ ?_ ?_); (· rfl); (· rfl)) | ((with_reducible refine pl_alloc_arr arr27 ?_ ?_); (· rfl)) | ((with_reducible refine pl_store_arr (cs := (bytesU h).toArray) arr27 (Blk.new _ _ _) ?_ ?_ ?_ size_zL h32 (one_bytesU _) ?_); (· rfl); (· rfl); (· rfl)) | ((with_reducible refine pl_load_arr (b := wr.heap.size) (cs := (bytesU h).toArray) arr27 ((Blk.new wr _ 27).setRow _) ?_ ?_ h32 ?_); (· rfl); (· rfl)))
        have K9 := (Blk.new wr (bytesU (zerosL 32)).toArray 27).setRow (bytesU h).toArray
        have K4 := (hb4.alloc (.cells (bytesU (zerosL 32)).toArray 27)).setRow_far (k := wr.heap.size) (by have := hb4.lt; omega) (bytesU h).toArray
        have K6 := (hb6.alloc (.cells (bytesU (zerosL 32)).toArray 27)).setRow_far (k := wr.heap.size) (by have := hb6.lt; omega) (bytesU h).toArray
        have hz := below_setRow (hbel.alloc hbel.size (.cells (bytesU (zerosL 32)).toArray 27)) (b := wr.heap.size) hbel.size (bytesU h).toArray
        have l9 := K9.lt
        have l4 := K4.lt
        have l6 := K6.lt
        have hwr := hbel.size
        generalize hwz : ((wr.alloc (.cells (bytesU (zerosL 32)).toArray 27)).setRow wr.heap.size (bytesU h).toArray) = wz at *
        have n6 : w.heap.size + 1 ≠ wr.heap.size := by have := hb6.lt; omega
        clear hwz hrk
        generalize wr.heap.size = B9 at *
        refine (hex_calls h wz hhl).mono ?_
        rintro e w1 ⟨rfl, hb1⟩
        replace K9 := K9.below hb1 l9
        replace K4 := K4.below hb1 l4
        replace K6 := K6.below hb1 l6
        replace hz := hz.trans (hb1.mono (by have := hz.size; omega))
        have cp : ∀ w, Calls Try.prog 27 #[.string ⟨(hexL h).toArray⟩, .string p] w fun e w' => e = .returned (.bool (decide (p.data.toList <+: hexL h))) ∧ w = w' := fun w => hasPrefix2_calls _ p w
        by_cases hpre : p.data.toList <+: hexL h
        · rw [if_pos hpre] at hR
          rw [decide_eq_true hpre] at cp
          have CP := Lib.hid cp
          clear cp hpre
          rcases hfo with rfl | rfl
          · have HR := Lib.hid hR
            have K6' := K6.setRow (bytesU h).toArray
            have K4' := K4.setRow_far (k := w.heap.size + 1) (by omega) (bytesU h).toArray
            clear hR
            go_wp2_with (first | (go_at_call 27; refine (CP.out _).mono ?_; rintro e w' ⟨rfl, rfl⟩) | ((with_reducible refine pl_load_arr (b := B9) (cs := (bytesU h).toArray) arr27 K9 ?_ ?_ h32 ?_); (· rfl); (· rfl)) | ((with_reducible refine pl_store_arr (cs := (bytesU h).toArray) arr27 K6 ?_ ?_ ?_ g32 h32 (one_bytesU _) ?_); (· rfl); (· rfl); (· rfl)))
            go_roundw
            case rel => exact ⟨k + 1, some h, h, by omega, by go_num, rfl, .inr rfl, hhl, K4', K6', below_setRow hz (by omega) _, HR.out⟩
            case measure => simp [intOf]; omega
          · by_cases hgh : g = h
            · subst hgh
              simp only [if_true] at hR
              have HR := Lib.hid hR
              have hqq : (!(g == g)) = false := by simp
              have K6' := K6.setRow (bytesU g).toArray
              have K4' := K4.setRow_far (k := w.heap.size + 1) (by omega) (bytesU g).toArray
              clear hR
              go_wp2_with (first | (go_at_call 27; refine (CP.out _).mono ?_; rintro e w' ⟨rfl, rfl⟩) | ((with_reducible refine pl_load_arr (b := B9) (cs := (bytesU g).toArray) arr27 K9 ?_ ?_ h32 ?_); (· rfl); (· rfl)) | ((with_reducible refine pl_load_arr (b := (w.heap.size + 1)) (cs := (bytesU g).toArray) arr27 K6 ?_ ?_ g32 ?_); (· rfl); (· rfl)) | ((with_reducible refine pl_neq_arr arr27 g g hqq hg hg ?_ ?_ ?_ ?_); (· rfl); (· rfl); (· rfl)) | ((with_reducible refine pl_store_arr (cs := (bytesU g).toArray) arr27 K6 ?_ ?_ ?_ g32 h32 (one_bytesU _) ?_); (· rfl); (· rfl); (· rfl)))
              go_roundw
              case rel => exact ⟨k + 1, some g, g, by omega, by go_num, rfl, .inr rfl, hhl, K4', K6', below_setRow hz (by omega) _, HR.out⟩
              case measure => simp [intOf]; omega
            · simp only [if_neg hgh] at hR
              have HR := Lib.hid hR
              have hqq : (!(h == g)) = true := by simp [Ne.symm hgh]
              clear hR hgh
              go_wp2_with (first | (go_at_call 27; refine (CP.out _).mono ?_; rintro e w' ⟨rfl, rfl⟩) | ((with_reducible refine pl_load_arr (b := B9) (cs := (bytesU h).toArray) arr27 K9 ?_ ?_ h32 ?_); (· rfl); (· rfl)) | ((with_reducible refine pl_load_arr (b := (w.heap.size + 1)) (cs := (bytesU g).toArray) arr27 K6 ?_ ?_ g32 ?_); (· rfl); (· rfl)) | ((with_reducible refine pl_neq_arr arr27 h g hqq hhl hg ?_ ?_ ?_ ?_); (· rfl); (· rfl); (· rfl)) | (with_reducible refine step_build0 arr27 ?_) | ((with_reducible refine pl_store_arr (cs := (bytesU (zerosL 32)).toArray) arr27 K4 ?_ ?_ ?_ size_z32 size_zL (one_bytesU _) ?_); (· rfl); (· rfl); (· rfl)))
              ((try simp only [Exit.inBlock, Exit.then]); rw [← HR.out]; exact tup2_ret (r := (z32, 11)) rfl rfl rfl (K4.setRow _) arr27 (by simp [z32]) rfl (below_setRow hz (Nat.le_refl _) _))
        · rw [if_neg hpre] at hR
          rw [decide_eq_false hpre] at cp
          have CP := Lib.hid cp
          have HR := Lib.hid hR
          clear cp hpre hR
          go_wp2_with (first | (go_at_call 27; refine (CP.out _).mono ?_; rintro e w' ⟨rfl, rfl⟩))
          go_roundw
          case rel => exact ⟨k + 1, fo, g, by omega, by go_num, rfl, hfo, hg, K4, K6, hz, HR.out⟩
          case measure => simp [intOf]; omega
      · obtain rfl : k = l.length := by omega
        have hR := hr.out
        rw [List.drop_length] at hR
        clear hr
        rcases hfo with rfl | rfl
        · rw [findR] at hR
          have HR := Lib.hid hR
          clear hR
          go_wp2_with (first | (with_reducible refine step_build0 arr27 ?_) | ((with_reducible refine pl_store_arr (cs := (bytesU (zerosL 32)).toArray) arr27 hb4 ?_ ?_ ?_ size_z32 size_zL (one_bytesU _) ?_); (· rfl); (· rfl); (· rfl)))
          ((try simp only [Exit.inBlock, Exit.then]); rw [← HR.out]; exact tup2_ret (r := (z32, 4)) rfl rfl rfl (hb4.setRow _) arr27 (by simp [z32]) rfl (below_setRow hbel (Nat.le_refl _) _))
        · rw [findR] at hR
          have HR := Lib.hid hR
          clear hR
          go_wp2_with (first | ((with_reducible refine pl_load_arr (b := (w.heap.size + 1)) (cs := (bytesU g).toArray) arr27 hb6 ?_ ?_ g32 ?_); (· rfl); (· rfl)) | ((with_reducible refine pl_store_arr (cs := (bytesU g).toArray) arr27 hb4 ?_ ?_ ?_ size_z32 g32 (one_bytesU _) ?_); (· rfl); (· rfl); (· rfl)))
          ((try simp only [Exit.inBlock, Exit.then]); rw [← HR.out]; exact tup2_ret (r := (g, 0)) rfl rfl rfl (hb4.setRow _) arr27 hg rfl (below_setRow hbel (Nat.le_refl _) _))
end Go.Proofs.Ytdanbjpfojgmiaa.Dg
