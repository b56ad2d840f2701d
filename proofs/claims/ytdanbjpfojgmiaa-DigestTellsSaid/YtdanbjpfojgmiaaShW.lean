/- The walks of digest.Short and estuaryref01.HexOf, Hex, Short. -/
import Derived.Test.YtdanbjpfojgmiaaArr
import Derived.Test.YtdanbjpfojgmiaaRows
import Derived.Test.YtdanbjpfojgmiaaHexW
import Derived.Test.YtdanbjpfojgmiaaHexP
import Derived.Test.YtdanbjpfojgmiaaUnW
import Derived.WalkSpells
import Derived.Deep.DeepCutAuto
import Derived.Deep.RegionHeld3
import Derived.BigQuiet
import Derived.Deep.QuietTactic
import Derived.Deep.AppendLies
import Derived.Deep.RegionHeldLaw
import Derived.WalkLawsBesides
namespace Go.Proofs.Ytdanbjpfojgmiaa.Dg
open Go.RowKit Mem Ops

def StrR (l : List UInt8) (w : World) (e : Ending) (w' : World) : Prop := e = .returned (.string ⟨l.toArray⟩) ∧ Below w.heap.size w w'

theorem size_mk (l : List UInt8) : (⟨l.toArray⟩ : ByteArray).size = l.length := by simp [ByteArray.size]
theorem short_calls (h : List UInt8) (n : Int) (w : World) (hh : h.length = 32) :
    Calls Try.prog 11 #[.agg (bytesU h).toArray, .int .i64 n] w (StrR (shortR h n) w) := by
  have hA : (bytesU h).toArray.size = 32 := by simp [hh]
  have hS : (⟨(hexL h).toArray⟩ : ByteArray).size = 64 := by rw [size_mk, length_hexL, hh]
  have m0 : 0 ≤ min (max n 0) 64 := by omega
  have m1 : min (max n 0) 64 ≤ 64 := by omega
  have hv : (⟨(hexL h).toArray⟩ : ByteArray).extract 0 (min (max n 0) 64).toNat = ⟨(shortR h n).toArray⟩ := by
    rw [ByteArray.extract_mk]; simp [shortR]
  have HV := Lib.hid hv
  clear hv
  generalize hSe : (⟨(hexL h).toArray⟩ : ByteArray) = S at *
  have HS := Lib.hid hSe
  generalize hm : min (max n 0) 64 = m at *
  go_enter Try.func11, Try.ntmps11
  go_wp2_with (first
    | ((with_reducible refine step_load_arr (b := w.heap.size) (cs := (bytesU h).toArray) arr27 (Blk.new _ _ _) ?_ ?_ ?_); (· rfl); (· exact hA))
    | (go_at_call 9; refine (hex_calls h _ hh).mono ?_; rintro e w1 ⟨rfl, hb1⟩))
  go_ret
  exact ⟨by show Ending.returned (Value.string (S.extract 0 m.toNat)) = _; rw [HV.out], ((Below.refl _ _).alloc (Nat.le_refl _) _).trans (hb1.mono (by simp))⟩

theorem own_apart {w : World} {base : Nat} {e : TypeId} {size : Nat} {v : Value} {n : Nat} {xs : List Value} (h : w.ownsRow base e size v n xs) {g : Nat} (hg : g < base) : v.ownBlock ≠ some g := by
  obtain ⟨_, h2⟩ := h
  rcases h2 with h2 | ⟨g', cap, cur, hv, hg', _⟩
  · rw [h2.1]; simp [Value.ownBlock]
  · rw [hv]; simp [Value.ownBlock]; omega

theorem own_ge {w : World} {base : Nat} {e : TypeId} {size : Nat} {v : Value} {n : Nat} {xs : List Value} (h : w.ownsRow base e size v n xs) : ∀ k, v.ownBlock = some k → base ≤ k := fun k hk => by
  rcases Nat.lt_or_ge k base with hl | hl
  · exact absurd hk (own_apart h hl)
  · exact hl
theorem own_row {w : World} {base : Nat} {e : TypeId} {v : Value} {n : Nat} {xs : List Value} (h : w.ownsRow base e 1 v n xs) (hx : xs.length = n) : ∃ a cap, v = .slice a n cap ∧ Row w a xs := by
  obtain ⟨_, h2⟩ := h
  rcases h2 with h2 | ⟨g, cap, cur, hv, hg, hh, hn, hcap, hsz, htake⟩
  · obtain ⟨rfl, rfl⟩ := h2
    exact ⟨none, 0, rfl, .inl (List.length_eq_zero_iff.mp hx)⟩
  · refine ⟨_, cap, hv, .inr ⟨g, 0, rfl, (Array.getElem?_eq_some_iff.1 hh).1, fun i v hi => ?_⟩⟩
    have hl : i < xs.length := by
      rcases Nat.lt_or_ge i xs.length with q | q
      · exact q
      · rw [List.getElem?_eq_none q] at hi; cases hi
    rw [Nat.zero_add, cell_of_row w g i cur e _ hh]
    rw [← htake, List.getElem?_take, if_pos (by omega)] at hi
    simpa using hi

/-- Two digits for each byte. -/
theorem hexOf_calls (a : Option Addr) (bs : List UInt8) (n cap : Nat) (w : World) (hn : n = bs.length) (hl : bs.length ≤ 70368744177664) (h : Row w a (bytesU bs)) :
    Calls Try.prog 25 #[.slice a n cap] w (StrR (hexL bs) w) := by
  have hi : (Try.prog.info? 5).map (fun i => (i.zero, i.size, i.bytes)) = some (some (.int .u8 0), 1, 1) := by kernel_rfl
  obtain ⟨i0, hi, hz0, hz1, hz2⟩ := info_parts hi
  subst hn
  go_enter Try.func25, Try.ntmps25
  go_wp2
  go_loopw [3, 4] (fun v i wr => ∃ k : Nat, k ≤ bs.length ∧ i = .int .i64 k ∧ wr.ownsRow w.heap.size 5 1 v (2 * k) (bytesU (hexL (bs.take k))) ∧ Below w.heap.size w wr) (fun _ i _ => bs.length - (intOf i).toNat)
  case atStart => exact ⟨0, Nat.zero_le _, rfl, World.ownsRow_nil _ _ _ _, Below.refl _ _⟩
  case round =>
    obtain ⟨k, hk, rfl, hown, hbel⟩ := hrel
    by_cases hlt : k < bs.length
    · obtain ⟨b, off, rfl, hb, hc⟩ := h.addr (by simp; omega)
      have hcx := (hbel.cell (p := ⟨b, off + k, none⟩) hb).trans (hc k _ (bytesU_get bs k hlt))
      generalize hce : bs.getD k 0 = c at *
      have HC := Lib.hid hce
      clear hce
      have q0 : (0 : Int) ≤ (k : Int) := by omega
      have q1 : (k : Int) < (bs.length : Int) := by omega
      have hcl := c.toNat_lt
      have p1 : IntKind.u8.wrap ((c.toNat : Int) / 16) = (c.toNat : Int) / 16 := by rw [IntKind.wrap_u8']; omega
      have p2 : (0 : Int) ≤ (c.toNat : Int) / 16 := by omega
      have p3 : (c.toNat : Int) / 16 < 16 := by omega
      have p4 : ((c.toNat : Int) / 16).toNat = c.toNat / 16 := by omega
      have r1 : (c.toNat : Int).tmod 16 = (c.toNat : Int) % 16 := Int.tmod_eq_emod_of_nonneg (by omega)
      have r2 : (0 : Int) ≤ (c.toNat : Int) % 16 := by omega
      have r3 : (c.toNat : Int) % 16 < 16 := by omega
      have r4 : ((c.toNat : Int) % 16).toNat = c.toNat % 16 := by omega
      have hap := own_apart hown hb
      have hws := hbel.size
      have hd1 := digit_at (c.toNat / 16) (by omega)
      have hd2 := digit_at (c.toNat % 16) (by omega)
      go_wp2_with fail
      go_region_held_law (fun w' => w'.cell? ⟨b, off + k, none⟩ = some (.int .u8 (c.toNat : Int)))
        (first
          | go_keep
          | (go_split_ands; (rw [hgrow.cell_far _ (by simp; omega) (Ne.symm hap)]; assumption)))
        ((refine step_append_lies _ (by rfl) _ _ _ (by rfl) w.heap.size 5 i0 _ 1 1 Try.underlying22 hi hz0 hz1 hz2 rfl (by omega) u3 (2 * k) (bytesU (hexL (bs.take k))) (by rfl) ((hown.alloc _).drew) ⟨wr.heap.size, 0, none⟩ 2 2 [.int .u8 ((hexDig (c.toNat / 16)).toNat : Int), .int .u8 ((hexDig (c.toNat % 16)).toNat : Int)] (by rfl) (by rfl) (World.news_of_block (cs := #[.int .u8 ((hexDig (c.toNat / 16)).toNat : Int), .int .u8 ((hexDig (c.toNat % 16)).toNat : Int)]) (t := 5) (fr := (0, 0)) (heap_alloc_new wr _)) (by simp [Value.oneCell']) (by omega) (by unfold maxLen; omega) (by omega) (by simp; omega) (wr.heap.size + 1) (by simp) ?_; intro gg cp w1 hown1 hgrow hat hlt2))
      all_goals
        go_wp2
        go_roundw
        case rel => exact ⟨k + 1, by omega, by go_num, by
          rw [take_snoc bs k 0 hlt, HC.out, hexL_snoc, bytesU_append]
          exact hown1, (((hbel.alloc hws _).drew).grown hgrow (by simp; omega) (own_ge hown))⟩
        case measure => simp [intOf]; omega
    · obtain rfl : k = bs.length := by omega
      obtain ⟨a', cp, rfl, hrow⟩ := own_row hown (by simp [length_hexL])
      rw [List.take_length] at hrow
      have hstr := run_str (P := Try.prog) hrow 22 5 9 Try.underlying22 Try.underlying5 Try.underlying9 (2 * bs.length) cp (by rw [length_hexL])
      go_wp2
      go_ret
      exact ⟨rfl, hbel⟩

theorem blk_row (w : World) (h : List UInt8) (T : TypeId) : Row (w.alloc (.cells (bytesU h).toArray T)) (some ⟨w.heap.size, 0, none⟩) (bytesU h) :=
  (Blk.new w _ T).row 0 (fun i v hv => by simpa using hv)

theorem hexRef_calls (h : List UInt8) (w : World) (hh : h.length = 32) :
    Calls Try.prog 13 #[.agg (bytesU h).toArray] w (StrR (hexL h) w) := by
  go_enter Try.func13, Try.ntmps13
  go_wp2_with (go_at_call 25; refine (hexOf_calls _ h 32 32 _ hh.symm (by omega) (blk_row w h 27)).mono ?_; rintro e w1 ⟨rfl, hb1⟩)
  go_ret
  exact ⟨rfl, ((Below.refl _ _).alloc (Nat.le_refl _) _).trans (hb1.mono (by simp))⟩

theorem shortRef_calls (h : List UInt8) (n : Int) (w : World) (hh : h.length = 32) :
    Calls Try.prog 14 #[.agg (bytesU h).toArray, .int .i64 n] w (StrR (shortR h n) w) := by
  have hA : (bytesU h).toArray.size = 32 := by simp [hh]
  have hS : (⟨(hexL h).toArray⟩ : ByteArray).size = 64 := by rw [size_mk, length_hexL, hh]
  obtain ⟨m, hm⟩ : ∃ m, m = min (max n 0) 64 := ⟨_, rfl⟩
  have hv : (⟨(hexL h).toArray⟩ : ByteArray).extract 0 m.toNat = ⟨(shortR h n).toArray⟩ := by
    rw [ByteArray.extract_mk, hm]; simp [shortR]
  have m0 : 0 ≤ m := by omega
  have m1 : m ≤ 64 := by omega
  have HV := Lib.hid hv
  have HM := Lib.hid hm
  clear hv hm
  generalize hSe : (⟨(hexL h).toArray⟩ : ByteArray) = S at *
  have HS := Lib.hid hSe
  go_enter Try.func14, Try.ntmps14
  go_upto_if 6 with fail
  go_cut [1] (fun v wx => v = .int .i64 (max n 0) ∧ w.alloc (.cells (bytesU h).toArray 27) = wx)
  case first =>
    go_wp2_with fail
    all_goals (go_meet; case rel => exact ⟨by congr 1; omega, rfl⟩)
  case rest =>
  obtain ⟨rfl, rfl⟩ := hcut
  go_upto_if 8 with fail
  go_cut [1] (fun v wx => v = .int .i64 m ∧ w.alloc (.cells (bytesU h).toArray 27) = wx)
  case first =>
    go_wp2_with fail
    all_goals (go_meet; case rel => exact ⟨by congr 1; have := HM.out; omega, rfl⟩)
  case rest =>
  obtain ⟨rfl, rfl⟩ := hcut
  go_wp2_with (first
    | ((with_reducible refine step_load_arr (b := w.heap.size) (cs := (bytesU h).toArray) arr27 (Blk.new _ _ _) ?_ ?_ ?_); (· rfl); (· exact hA))
    | (go_at_call 13; refine (hexRef_calls h _ hh).mono ?_; rintro e w1 ⟨rfl, hb1⟩))
  go_ret
  exact ⟨by show Ending.returned (Value.string (S.extract 0 m.toNat)) = _; rw [HV.out], ((Below.refl _ _).alloc (Nat.le_refl _) _).trans (hb1.mono (by simp))⟩
end Go.Proofs.Ytdanbjpfojgmiaa.Dg
