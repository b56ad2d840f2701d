/- The walk of the document's HexOf. -/
import Derived.Test.YtoddjofckbfkhaaDoorProg
import Derived.Test.YtoddjofckbfkhaaDoorHexL
import Derived.Test.YtoddjofckbfkhaaDoorApp
import Derived.WalkSpells
import Derived.Deep.DeepCutAuto
import Derived.Deep.RegionHeld3
import Derived.BigQuiet
import Derived.Deep.QuietTactic
import Derived.Deep.AppendLies
import Derived.Deep.RegionHeldLaw
import Derived.WalkLawsBesides
namespace Go.Proofs.YtoddjofckbfkhaaDoor.Dg
open Go.RowKit Mem Ops
def StrR (l : List UInt8) (w : World) (e : Ending) (w' : World) : Prop := e = .returned (.string ⟨l.toArray⟩) ∧ Below w.heap.size w w'
theorem size_mk (l : List UInt8) : (⟨l.toArray⟩ : ByteArray).size = l.length := by simp [ByteArray.size]
theorem own_apart {w : World} {base : Nat} {e : TypeId} {size : Nat} {v : Value} {n : Nat} {xs : List Value} (h : w.ownsRow base e size v n xs) {g : Nat} (hg : g < base) : v.ownBlock ≠ some g := by
  obtain ⟨_, h2⟩ := h
  rcases h2 with h2 | ⟨g', cap, cur, hv, hg', _⟩
  · rw [h2.1]; simp [Value.ownBlock]
  · rw [hv]; simp [Value.ownBlock]; omega

theorem own_ge {w : World} {base : Nat} {e : TypeId} {size : Nat} {v : Value} {n : Nat} {xs : List Value} (h : w.ownsRow base e size v n xs) : ∀ k, v.ownBlock = some k → base ≤ k := fun k hk => by
  rcases Nat.lt_or_ge k base with hl | hl
  · exact absurd hk (own_apart h hl)
  · exact hl
/-- Two digits for each byte. -/
theorem hexOf_calls (a : Option Addr) (bs : List UInt8) (n cap : Nat) (w : World) (hn : n = bs.length) (hl : bs.length ≤ 70368744177664) (h : Row w a (bytesU bs)) :
    Calls Tryd.prog 84 #[.slice a n cap] w (StrR (hexL bs) w) := by
  have hi : (Tryd.prog.info? 5).map (fun i => (i.zero, i.size, i.bytes)) = some (some (.int .u8 0), 1, 1) := by kernel_rfl
  obtain ⟨i0, hi, hz0, hz1, hz2⟩ := info_parts hi
  subst hn
  go_enter Tryd.func84, Tryd.ntmps84
  go_wp2
  go_loopw [3, 4] (fun v i wr => ∃ k : Nat, k ≤ bs.length ∧ i = .int .i64 k ∧ wr.ownsRow w.heap.size 5 1 v (2 * k) (bytesU (hexL (bs.take k))) ∧ Below w.heap.size w wr) (fun _ i _ => bs.length - (intOf i).toNat)
  case atStart => exact ⟨0, Nat.zero_le _, rfl, World.ownsRow_nil _ _ _ _, Below.refl _ _⟩
  case round =>
    obtain ⟨k, hk, rfl, hown, hbel⟩ := hrel
    by_cases hlt : k < bs.length
    · obtain ⟨b, off, rfl, hb, hc⟩ := h.addr (by simp; omega)
      have hcx := (hbel.cell (p := ⟨b, off + k, none⟩) hb).trans (hc k _ (bytesU_get bs k hlt))
      generalize hce : bs.getD k 0 = c at *
      have HC := Lib.hid hce
      clear hce
      have q0 : (0 : Int) ≤ (k : Int) := by omega
      have q1 : (k : Int) < (bs.length : Int) := by omega
      have hcl := c.toNat_lt
      have p1 : IntKind.u8.wrap ((c.toNat : Int) / 16) = (c.toNat : Int) / 16 := by rw [IntKind.wrap_u8']; omega
      have p2 : (0 : Int) ≤ (c.toNat : Int) / 16 := by omega
      have p3 : (c.toNat : Int) / 16 < 16 := by omega
      have p4 : ((c.toNat : Int) / 16).toNat = c.toNat / 16 := by omega
      have r1 : (c.toNat : Int).tmod 16 = (c.toNat : Int) % 16 := Int.tmod_eq_emod_of_nonneg (by omega)
      have r2 : (0 : Int) ≤ (c.toNat : Int) % 16 := by omega
      have r3 : (c.toNat : Int) % 16 < 16 := by omega
      have r4 : ((c.toNat : Int) % 16).toNat = c.toNat % 16 := by omega
      have hap := own_apart hown hb
      have hws := hbel.size
      have hd1 := digit_at (c.toNat / 16) (by omega)
      have hd2 := digit_at (c.toNat % 16) (by omega)
      go_wp2_with fail
      go_region_held_law (fun w' => w'.cell? ⟨b, off + k, none⟩ = some (.int .u8 (c.toNat : Int)))
        (first
          | go_keep
          | (go_split_ands; (rw [hgrow.cell_far _ (by simp; omega) (Ne.symm hap)]; assumption)))
        ((refine step_append_lies _ (by rfl) _ _ _ (by rfl) w.heap.size 5 i0 _ 1 1 Tryd.underlying82 hi hz0 hz1 hz2 rfl (by omega) u3 (2 * k) (bytesU (hexL (bs.take k))) (by rfl) ((hown.alloc _).drew) ⟨wr.heap.size, 0, none⟩ 2 2 [.int .u8 ((hexDig (c.toNat / 16)).toNat : Int), .int .u8 ((hexDig (c.toNat % 16)).toNat : Int)] (by rfl) (by rfl) (World.news_of_block (cs := #[.int .u8 ((hexDig (c.toNat / 16)).toNat : Int), .int .u8 ((hexDig (c.toNat % 16)).toNat : Int)]) (t := 5) (fr := (0, 0)) (heap_alloc_new wr _)) (by simp [Value.oneCell']) (by omega) (by unfold maxLen; omega) (by omega) (by simp; omega) (wr.heap.size + 1) (by simp) ?_; intro gg cp w1 hown1 hgrow hat hlt2))
      all_goals
        go_wp2
        go_roundw
        case rel => exact ⟨k + 1, by omega, by go_num, by
          rw [take_snoc bs k 0 hlt, HC.out, hexL_snoc, bytesU_append]
          exact hown1, (((hbel.alloc hws _).drew).grown hgrow (by simp; omega) (own_ge hown))⟩
        case measure => simp [intOf]; omega
    · obtain rfl : k = bs.length := by omega
      obtain ⟨a', cp, rfl, _, _, hrow, _⟩ := own_row hown
      rw [List.take_length] at hrow
      have hstr := run_str (P := Tryd.prog) hrow 82 5 9 Tryd.underlying82 Tryd.underlying5 Tryd.underlying9 (2 * bs.length) cp (by rw [length_hexL])
      go_wp2
      go_ret
      exact ⟨rfl, hbel⟩

end Go.Proofs.YtoddjofckbfkhaaDoor.Dg
