/- The walk of estuarymem.HandHashes. -/
import Derived.Test.YtdanbjpfojgmiaaHandX
import Derived.Test.YtdanbjpfojgmiaaFindRW
namespace Go.Proofs.Ytdanbjpfojgmiaa.Dg
open Go.RowKit Mem Ops
def mark (i : Nat) : List UInt8 := 160 :: i.toUInt8 :: zerosL 30
def marked (l : List (List UInt8)) : List (List UInt8) := l ++ (List.range 9).map mark
theorem length_mark (i : Nat) : (mark i).length = 32 := by simp [mark, zerosL]
theorem length_marked (l : List (List UInt8)) : (marked l).length = l.length + 9 := by simp [marked]
theorem marked_lt (l : List (List UInt8)) {k : Nat} (h : k < l.length) : (marked l).getD k [] = l.getD k [] := by
  rw [marked, List.getD_eq_getElem?_getD, List.getElem?_append_left h, ← List.getD_eq_getElem?_getD]
theorem marked_ge (l : List (List UInt8)) {k : Nat} (h : l.length ≤ k) (h2 : k < l.length + 9) : (marked l).getD k [] = mark (k - l.length) := by
  have h3 : k - l.length < 9 := by omega
  rw [marked, List.getD_eq_getElem?_getD, List.getElem?_append_right h, List.getElem?_map, List.getElem?_range h3]; rfl
theorem marked_len {l : List (List UInt8)} (h : ∀ x ∈ l, x.length = 32) : ∀ x ∈ marked l, x.length = 32 := by
  intro x hx
  rw [marked, List.mem_append] at hx
  rcases hx with hx | hx
  · exact h x hx
  · obtain ⟨i, _, rfl⟩ := List.mem_map.1 hx; exact length_mark i
theorem len_marked {l : List (List UInt8)} (h : ∀ x ∈ l, x.length = 32) {k : Nat} (hk : k < l.length + 9) : ((marked l).getD k []).length = 32 := by
  rw [List.getD_eq_getElem?_getD, List.getElem?_eq_getElem (by rw [length_marked]; exact hk)]
  exact marked_len h _ (List.getElem_mem _)
theorem _root_.Go.Proofs.Ytdanbjpfojgmiaa.Mem.Blk.there {w : World} {b : Nat} {cs : Array Value} {T : TypeId} (h : Blk w b cs T) {n : Nat} (hn : n ≤ cs.size) : w.there b 0 n := fun j hj => by
  rw [h.cell, h.frozen]; exact ⟨by rw [Array.getElem?_eq_getElem (by omega)]; rfl, rfl⟩
/-- One place more is filled. -/
theorem filled {wr : World} {B n k : Nat} {L : List (List UInt8)} {h : List UInt8} (hk : k < n) (hL : ∀ i, i < n → (L.getD i []).length = 32) (hh : L.getD k [] = h) (h0 : wr.there B 0 (n * 32) ∧ ∀ i, i < k → wr.rangeAt B (i * 32) (bytesU (L.getD i []))) :
    (wr.setCells B (k * 32) (bytesU h)).there B 0 (n * 32) ∧ ∀ i, i < k + 1 → (wr.setCells B (k * 32) (bytesU h)).rangeAt B (i * 32) (bytesU (L.getD i [])) := by
  have hl := hL k hk
  rw [hh] at hl
  refine ⟨World.there_setCells h0.1 _ _ _, fun i hi => ?_⟩
  rcases Nat.lt_or_ge i k with q | q
  · exact World.rangeAt_setCells_apart (h0.2 i q) _ _ _ (.inr (.inl (by rw [length_bytesU, hL i (by omega)]; omega)))
  · obtain rfl : i = k := by omega
    rw [hh]
    have := World.rangeAt_setCells_same wr B (i * 32) (bytesU h) (fun j hj => by
      have h1 : j < 32 := by simpa [hl] using hj
      have h2 := h0.1 (i * 32 + j) (by omega)
      simpa using h2)
    simpa using this
theorem there_part {wr : World} {B n k : Nat} (hk : k < n) (h : wr.there B 0 (n * 32)) : wr.there B (k * 32) 32 := fun j hj => by
  have := h (k * 32 + j) (by omega)
  simpa using this
/-- What HandHashes gives. -/
def Handed (l : List (List UInt8)) (w : World) (e : Ending) (w' : World) : Prop :=
  ∃ a, e = .returned (.slice a l.length (l.length + 9)) ∧ Hs w' a (marked l) ∧ Below w.heap.size w w'

set_option maxRecDepth 100000 in
set_option maxHeartbeats 4000000 in
theorem hand_calls (a : Option Addr) (l : List (List UInt8)) (n cap : Nat) (w : World) (hn : n = l.length) (hl : l.length ≤ 8000000000000) (hH : Hs w a l) :
    Calls Try.prog 17 #[.slice a n cap] w (Handed l w) := by
  subst hn
  obtain ⟨L, hL⟩ : ∃ L, L = marked l := ⟨_, rfl⟩
  have hLl : ∀ i, i < l.length + 9 → (L.getD i []).length = 32 := fun i hi => by rw [hL]; exact len_marked hH.2 hi
  obtain ⟨ti, hi, hz, hby, hsz⟩ : ∃ ti, Try.prog.info? 27 = some ti ∧ ti.zero = some (.agg (Array.replicate 32 (.int .u8 0))) ∧ (ti.bytes : Int) * (l.length + 9 : Nat) ≤ 281474976710656 ∧ ti.size = 32 := by
    have h1 := arr27.zero
    have h2 : (Try.prog.info? 27).map (·.bytes) = some 32 := by kernel_rfl
    cases hq : Try.prog.info? 27 with
    | none => rw [hq] at h2; cases h2
    | some i =>
      rw [hq] at h1 h2
      simp at h1 h2
      exact ⟨i, rfl, h1.1, by rw [h2]; omega, h1.2⟩
  have hmm : ((l.length + 9 : Nat) : Int) ≤ 9223372036854775807 := by omega
  go_enter Try.func17, Try.ntmps17
  go_wp2_with (first | ((with_reducible refine pl_make (m := l.length + 9) Try.underlying38 hi hz hby hmm ?_ ?_ ?_); (· rfl); (· rfl)))
  have hbel0 := (Below.refl w.heap.size w).alloc (Nat.le_refl _) (.cells (madeCells (Array.replicate 32 (.int .u8 0)) ((l.length + 9) * 32)) 27)
  have KB := Blk.new w (madeCells (Array.replicate 32 (.int .u8 0)) ((l.length + 9) * 32)) 27
  have hth := KB.there (n := (l.length + 9) * 32) (by rw [size_madeCells]; exact Nat.le_refl _)
  have hlt0 := KB.lt
  generalize hwz : (w.alloc (.cells (madeCells (Array.replicate 32 (.int .u8 0)) ((l.length + 9) * 32)) 27)) = wz at *
  clear hwz KB hi hz hby hsz hmm
  go_loopw [4] (fun i wr => ∃ k : Nat, k ≤ l.length ∧ i = .int .i64 k ∧ Below w.heap.size w wr ∧ w.heap.size < wr.heap.size ∧ Hid (wr.there w.heap.size 0 ((l.length + 9) * 32) ∧ ∀ i, i < k → wr.rangeAt w.heap.size (i * 32) (bytesU (L.getD i [])))) (fun i _ => l.length - (intOf i).toNat)
  case atStart => exact ⟨0, Nat.zero_le _, rfl, hbel0, hlt0, Lib.hid ⟨hth, fun i h => absurd h (Nat.not_lt_zero i)⟩⟩
  case round =>
    clear hbel0 hth hlt0
    obtain ⟨k, hk, rfl, hbel, hlt1, hr⟩ := hrel
    by_cases hlt : k < l.length
    · obtain ⟨b, off, rfl, hb, hc⟩ := hH.addr (by omega)
      have hrk := rangeAt_below (hc k hlt) hbel hb
      have hhl := hH.len hlt
      have hLk : L.getD k [] = l.getD k [] := by rw [hL]; exact marked_lt l hlt
      generalize l.getD k [] = h at *
      have hr2 := Lib.hid (filled (B := w.heap.size) (show k < l.length + 9 by omega) hLl hLk hr.out)
      have hthk := there_part (show k < l.length + 9 by omega) hr.out.1
      have q0 : (0 : Int) ≤ (k : Int) := by omega
      have q1 : (k : Int) < (l.length : Int) := by omega
      have hbel2 := below_setCells (Nat.le_refl w.heap.size) (bytesU h) (k * 32) _ hbel
      clear hr hLk
      go_wp2_with (first | ((with_reducible refine pl_load_range (b := b) (o := off + k * 32) arr27 hrk hhl ?_ ?_ ?_); (· rfl); (· rfl)) | ((with_reducible refine pl_store_range (b := w.heap.size) (o := k * 32) (h := h) arr27 hthk hhl ?_ ?_ ?_ ?_); (· rfl); (· rfl); (· rfl)))
      go_roundw
      case rel => exact ⟨k + 1, by omega, by go_num, hbel2, Nat.lt_of_lt_of_le hlt1 (below_setCells (Nat.zero_le _) _ _ _ (Below.refl 0 wr)).size, hr2⟩
      case measure => simp [intOf]; omega
    · obtain rfl : k = l.length := by omega
      go_wp2
      go_loopw [5] (fun i wr => ∃ k : Nat, (l.length ≤ k ∧ k ≤ l.length + 9) ∧ i = .int .i64 k ∧ Below w.heap.size w wr ∧ w.heap.size < wr.heap.size ∧ Hid (wr.there w.heap.size 0 ((l.length + 9) * 32) ∧ ∀ i, i < k → wr.rangeAt w.heap.size (i * 32) (bytesU (L.getD i [])))) (fun i _ => l.length + 9 - (intOf i).toNat)
      case atStart => exact ⟨l.length, ⟨Nat.le_refl _, by omega⟩, rfl, hbel, hlt1, hr⟩
      case round =>
        clear hbel hlt1 hr
        obtain ⟨k, ⟨hk0, hk⟩, rfl, hbel, hlt1, hr⟩ := hrel
        by_cases hlt : k < l.length + 9
        · have hLk : L.getD k [] = mark (k - l.length) := by rw [hL]; exact marked_ge l hk0 hlt
          have hhl := length_mark (k - l.length)
          have hr2 := Lib.hid (filled (B := w.heap.size) (show k < l.length + 9 by omega) hLl hLk hr.out)
          have hthk := there_part (show k < l.length + 9 by omega) hr.out.1
          have q0 : (0 : Int) ≤ (k : Int) := by omega
          have q1 : (k : Int) < (l.length : Int) + 9 := by omega
          have hbel2 := below_setCells (Nat.le_refl w.heap.size) (bytesU (mark (k - l.length))) (k * 32) _ hbel
          have hbyte : ((k : Int) - (l.length : Int)) = (((k - l.length).toUInt8).toNat : Int) := by simp; omega
          clear hr hLk
          go_wp2_with (first | ((with_reducible refine pl_build2 (n := 30) (c := 160) (d := (k - l.length).toUInt8) arr27 rfl hbyte ?_ ?_ ?_ ?_); (· rfl); (· rfl); (· rfl)) | ((with_reducible refine pl_store_range (b := w.heap.size) (o := k * 32) (h := (mark (k - l.length))) arr27 hthk hhl ?_ ?_ ?_ ?_); (· rfl); (· rfl); (· rfl)))
          go_roundw
          case rel => exact ⟨k + 1, ⟨by omega, by omega⟩, by go_num, hbel2, Nat.lt_of_lt_of_le hlt1 (below_setCells (Nat.zero_le _) _ _ _ (Below.refl 0 wr)).size, hr2⟩
          case measure => simp [intOf]; omega
        · obtain rfl : k = l.length + 9 := by omega
          have hrr := hr.out.2
          have hs : Hs _ (some ⟨w.heap.size, 0, none⟩) (marked l) := hs_of_ranges hlt1 (marked_len hH.2) (fun i hi => by rw [← hL]; exact hrr i (by rw [length_marked] at hi; exact hi))
          clear hr hrr
          go_wp2
          go_ret
          exact ⟨_, rfl, hs, hbel⟩
end Go.Proofs.Ytdanbjpfojgmiaa.Dg
