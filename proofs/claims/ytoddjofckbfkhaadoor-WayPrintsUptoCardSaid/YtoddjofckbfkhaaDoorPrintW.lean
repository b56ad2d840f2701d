/- The walks of way.Print and of the document's Print. -/
import Derived.Test.YtoddjofckbfkhaaDoorRightW
import Derived.Test.YtoddjofckbfkhaaDoorQuoteW
import Derived.Test.YtoddjofckbfkhaaDoorPlainW
import Derived.Test.YtoddjofckbfkhaaDoorShelf3
import Derived.Lib.AppendIntMem
import Derived.Laws.Concat
namespace Go.Proofs.YtoddjofckbfkhaaDoor.Wy
open Go.RowKit Mem Ops Ut Dg
/-- A step's text. -/
def stepT (s : St) : List UInt8 :=
  if s.kind = 2 then 91 :: (Lib.itoa s.num ++ [93]) else if s.kind = 3 then 126 :: Lib.itoa s.num
  else if simpleR s.key.data.toList then 47 :: s.key.data.toList else 47 :: quoteR s.key.data.toList
def stepsT (l : List St) : List UInt8 := l.flatMap stepT
def printW (l : List St) : List UInt8 := if rightW l = 0 then (if l = [] then [47] else stepsT l) else []
abbrev Tab10 (w : World) : Prop := Lib.TabIs Tryd.prog w "internal/strconv.uint64pow10" .u64 Lib.pow10Tab
theorem digits_le : ∀ (k u : Nat), u < 10 ^ (k + 1) → Lib.nDigits u ≤ k + 1
  | 0, u, h => by rw [Lib.nDigits, dif_pos (by simpa using h)]; exact Nat.le_refl _
  | k + 1, u, h => by
    rw [Lib.nDigits]
    split
    · omega
    · have := digits_le k (u / 10) (by rw [Nat.pow_succ] at h; omega)
      omega
theorem itoa_len (n : Int) (h0 : 0 ≤ n) (h1 : n ≤ 2147483647) : (Lib.itoa n).length ≤ 10 := by
  unfold Lib.itoa
  rw [if_neg (by omega), Lib.decDigits_length]
  exact digits_le 9 _ (by omega)
theorem quote_len (l : List UInt8) (h : l.length ≤ 64) : (quoteR l).length ≤ 386 := by
  unfold quoteR
  have := escL_len l
  split <;> simp <;> omega
theorem key_parts {l : List UInt8} (h : keyR l = true) : 1 ≤ l.length ∧ l.length ≤ 64 := by
  unfold keyR at h
  simp only [Bool.and_eq_true, decide_eq_true_eq] at h
  exact ⟨h.2.1, h.2.2.1⟩
theorem fine_true {s : St} (h : fineR s = true) : (s.kind = 1 ∧ 1 ≤ s.key.size ∧ s.key.size ≤ 64) ∨ (s.kind = 2 ∧ 0 ≤ s.num ∧ s.num ≤ 2147483647) ∨ (s.kind = 3 ∧ 0 ≤ s.num ∧ s.num ≤ 2147483647) := by
  rcases fine_cases s with ⟨h1, h2, e⟩ | ⟨h1, h2, e⟩ | ⟨h1, h2, h3, e⟩ | ⟨h1, h2, h3, e⟩ | ⟨h1, h2, h3, h4, e⟩ | ⟨h1, h2, h3, h4, h5, e⟩ | ⟨h1, h2, h3, h4, h5, e⟩
  · rw [h] at e
    exact .inl ⟨h1, key_parts e.symm⟩
  all_goals first | (rw [h] at e; cases e) | skip
  rcases h1 with h1 | h1
  · exact .inr (.inl ⟨h1, h4, h5⟩)
  · exact .inr (.inr ⟨h1, h4, h5⟩)
theorem stepT_len {s : St} (h : fineR s = true) : 1 ≤ (stepT s).length ∧ (stepT s).length ≤ 400 := by
  unfold stepT
  rcases fine_true h with ⟨h1, h2, h3⟩ | ⟨h1, h2, h3⟩ | ⟨h1, h2, h3⟩
  · have hl := len_str s.key
    have := quote_len s.key.data.toList (by omega)
    rw [if_neg (by omega), if_neg (by omega)]
    split <;> simp <;> omega
  · have := itoa_len s.num h2 h3
    rw [if_pos h1]; simp; omega
  · have := itoa_len s.num h2 h3
    rw [if_neg (by omega), if_pos h1]; simp; omega
theorem stepsT_drop (l : List St) (k : Nat) (hk : k < l.length) : stepsT (l.drop k) = stepT (l.getD k st0) ++ stepsT (l.drop (k + 1)) := by
  unfold stepsT
  rw [List.drop_eq_getElem_cons hk, List.flatMap_cons, List.getD_eq_getElem?_getD, List.getElem?_eq_getElem hk]
  rfl
theorem add_lists {X Y Z : List UInt8} (h : X ++ Y = Z) (hx : X.length ≤ 100000) (hy : Y.length ≤ 100000) (w : World) : (Op.stringOp .add ⟨X.toArray⟩ ⟨Y.toArray⟩).run Tryd.prog w = .ok (.string ⟨Z.toArray⟩) w := by
  subst h
  exact run_string_add_lists w X Y (by omega) (by omega)
theorem right_all {l : List St} (h : rightW l = 0) : l.length ≤ 32 ∧ ∀ k, k < l.length → fineR (l.getD k st0) = true := by
  unfold rightW at h
  split at h
  · cases h
  · rename_i h1
    split at h
    · rename_i h2
      refine ⟨by omega, fun k hk => ?_⟩
      rw [List.getD_eq_getElem?_getD, List.getElem?_eq_getElem hk]
      exact List.all_eq_true.1 h2 _ (List.getElem_mem _)
    · cases h
theorem st_cells_at {w : World} {b o : Nat} {kd num : Int} {key : ByteArray} (h : w.rangeAt b o (St.cells ⟨kd, key, num⟩)) : w.cell? ⟨b, o, none⟩ = some (.int .u8 kd) ∧ w.cell? ⟨b, o + 1, none⟩ = some (.string key) ∧ w.cell? ⟨b, o + 2, none⟩ = some (.int .i64 num) :=
  ⟨h 0 _ rfl, h 1 _ rfl, h 2 _ rfl⟩
/-- What Print gives. -/
def PrintTo (l : List St) (w : World) (e : Ending) (w' : World) : Prop := e = .returned (.tuple #[.string ⟨(printW l).toArray⟩, .int .i64 (rightW l)]) ∧ Below w.heap.size w w'
theorem steps_ne {l : List St} (hf : ∀ k, k < l.length → fineR (l.getD k st0) = true) (h : 0 < l.length) : 0 < (stepsT l).length := by
  have := stepsT_drop l 0 h
  rw [List.drop_zero] at this
  have h2 := stepT_len (hf 0 h)
  rw [this, List.length_append]
  omega

theorem itoa_below {w : World} {v : Value} {n : Int} (h : Calls Tryd.prog 30 #[.int .i64 n] w fun e w' => e = .returned v ∧ ∃ k os, w' = Go.Sort.grow (w.drewN k) os) : Calls Tryd.prog 30 #[.int .i64 n] w fun e w' => e = .returned v ∧ Below w.heap.size w w' :=
  h.mono fun _ _ ⟨he, k, os, hw⟩ => ⟨he, by rw [hw]; exact Lib.below_grow _ w (Nat.le_refl _) k os⟩
set_option maxRecDepth 100000 in
set_option maxHeartbeats 8000000 in
theorem print_calls (a : Option Addr) (l : List St) (n cap : Nat) (w : World) (hn : n = l.length) (hl : l.length ≤ 140737488351232) (hK : KeysOk l) (hT : Tabs w) (h10 : Tab10 w) (hH : Sts w a l) :
    Calls Tryd.prog 20 #[.slice a n cap] w (PrintTo l w) := by
  subst hn
  have hR0 := Lib.hid (right_calls a l l.length cap w rfl hl hK hT hH)
  unfold PrintTo
  obtain ⟨r, hr⟩ : ∃ r, rightW l = r := ⟨_, rfl⟩
  rw [hr] at hR0 ⊢
  by_cases h0 : r = 0
  · subst h0
    obtain ⟨hl32, hf⟩ := right_all hr
    have tb := Lib.tabBelow_of_tabIs h10
    rcases Nat.eq_zero_or_pos l.length with hz | hz
    · obtain rfl : l = [] := List.eq_nil_of_length_eq_zero hz
      rw [show printW [] = [47] from by unfold printW; rw [if_pos hr, if_pos rfl]]
      clear hr hf hz tb
      go_enter Tryd.func20, Tryd.ntmps20
      go_wp2_with (first | (go_at_call 17; refine hR0.out.mono ?_; rintro e w1 ⟨rfl, hb1⟩))
      go_ret2
      exact ⟨rfl, hb1⟩
    obtain ⟨R, hRr⟩ : ∃ R, stepsT l = R := ⟨_, rfl⟩
    rw [show printW l = R from by unfold printW; rw [if_pos hr, if_neg (by intro e; subst e; simp at hz), hRr]]
    have z1 : ((l.length : Int) == 0) = false := beq_eq_false_iff_ne.mpr (by omega)
    have HR : Hid ([] ++ stepsT (l.drop 0) = R) := Lib.hid hRr
    have q0 : (l.length : Int) ≤ 32 := by omega
    clear hRr hr
    go_enter Tryd.func20, Tryd.ntmps20
    go_wp2_with (first | (go_at_call 17; refine hR0.out.mono ?_; rintro e w1 ⟨rfl, hb1⟩))
    clear hR0
    go_loopw [5, 18] (fun sv i wr => ∃ (k : Nat) (S : List UInt8), k ≤ l.length ∧ S.length ≤ 400 * k ∧ sv = .string ⟨S.toArray⟩ ∧ i = .int .i64 k ∧ Hid (S ++ stepsT (l.drop k) = R) ∧ Below w.heap.size w wr) (fun _ i _ => l.length - (intOf i).toNat)
    case atStart => exact ⟨0, [], Nat.zero_le _, by simp, rfl, rfl, HR, hb1⟩
    case round =>
      clear HR hb1
      obtain ⟨k, S, hk, hS, rfl, rfl, hr, hbel⟩ := hrel
      by_cases hlt : k < l.length
      · obtain ⟨b, off, rfl, hb, hc⟩ := hH.addr (by omega)
        have hrk := rangeAt_below (hc k hlt) hbel hb
        have hfk := hf k hlt
        have hks := hK.at hlt
        have hR := hr.out
        rw [stepsT_drop l k hlt, ← List.append_assoc] at hR
        have hsl := stepT_len hfk
        generalize l.getD k st0 = s at *
        have hws := hbel.size
        obtain ⟨X, hX⟩ : ∃ X, stepT s = X := ⟨_, rfl⟩
        rw [hX] at hR hsl
        have had := fun (w : World) => add_lists (X := S) (Y := X) rfl (by omega) (by omega) w
        obtain ⟨S2, hS2⟩ : ∃ S2, S ++ X = S2 := ⟨_, rfl⟩
        rw [hS2] at hR had
        have hS2l : S2.length ≤ 400 * (k + 1) := by rw [← hS2]; simp; omega
        have HR := Lib.hid hR
        have p0 : (k : Int) < (l.length : Int) := by omega
        have p1 : (k : Int) ≤ 32 := by omega
        have hb3 := st_below hbel hws s
        have K0 := Blk.new wr st0.cells.toArray 59
        have r3 := st_laid wr s
        have hz3 := hb3.size
        obtain ⟨w3, hw3⟩ : ∃ w3, (wr.alloc (.cells st0.cells.toArray 59)).setRow wr.heap.size s.cells.toArray = w3 := ⟨_, rfl⟩
        have b3' := hb3
        rw [hw3] at b3'
        have hz3' := b3'.size
        clear hr hc hR hS2 hsl
        obtain ⟨kd, key, num⟩ := s
        obtain ⟨c0, c1, c2⟩ := st_cells_at r3
        rw [Nat.zero_add] at c1 c2
        rcases fine_true hfk with ⟨f1, f2, f3⟩ | ⟨f1, f2, f3⟩ | ⟨f1, f2, f3⟩
        · simp only at f1 f2 f3
          obtain rfl : kd = 1 := f1
          have hsz := len_str key
          have hqc := quote_calls key ((wr.alloc (.cells st0.cells.toArray 59)).setRow wr.heap.size (St.mk 1 key num).cells.toArray) (by omega) (hT.below (by rw [hw3]; exact b3'))
          unfold StrR at hqc
          have hsc := simple_calls key ((wr.alloc (.cells st0.cells.toArray 59)).setRow wr.heap.size (St.mk 1 key num).cells.toArray) (by omega)
          unfold stepT at hX
          rw [if_neg (show ¬ (1 : Int) = 2 by decide), if_neg (show ¬ (1 : Int) = 3 by decide)] at hX
          simp only at hX
          have hql := quote_len key.data.toList (by omega)
          generalize quoteR key.data.toList = Qd at *
          generalize simpleR key.data.toList = Bs at *
          have hQc := Lib.hid hqc
          have hSc := Lib.hid hsc
          clear hqc hsc hw3
          cases Bs
          · rw [if_neg (by decide)] at hX
            have ha1 := fun (w : World) => add_lists (X := [47]) (Y := Qd) (Z := X) (by rw [← hX]; rfl) (by simp) (by omega) w
            clear hX hsz f2 f3 hql
            go_wp2_with (first | ((with_reducible refine pl_load_st (b := b) (o := off + k * 3) hrk ?_ ?_ ?_); (· rfl); (· rfl)) | ((with_reducible refine pl_alloc_st ?_ ?_); (· rfl)) | ((with_reducible refine pl_store_st (b := wr.heap.size) (o := st0) (s := ⟨1, key, num⟩) K0 ?_ ?_ ?_ ?_); (· rfl); (· rfl); (· rfl)) | (go_at_call 31; refine hSc.out.mono ?_; rintro e w5 ⟨rfl, rfl⟩) | (go_at_call 32; refine hQc.out.mono ?_; rintro e w4 ⟨rfl, hb4⟩))
            go_roundw
            case rel => exact ⟨k + 1, S2, by omega, hS2l, rfl, by go_num, HR, hb3.trans (hb4.mono hz3)⟩
            case measure => simp [intOf]; omega
          · rw [if_pos rfl] at hX
            have ha1 := fun (w : World) => add_lists (X := [47]) (Y := key.data.toList) (Z := X) (by rw [← hX]; rfl) (by simp) (by omega) w
            rw [show (⟨key.data.toList.toArray⟩ : ByteArray) = key from by simp] at ha1
            clear hX hsz f2 f3 hql
            go_wp2_with (first | ((with_reducible refine pl_load_st (b := b) (o := off + k * 3) hrk ?_ ?_ ?_); (· rfl); (· rfl)) | ((with_reducible refine pl_alloc_st ?_ ?_); (· rfl)) | ((with_reducible refine pl_store_st (b := wr.heap.size) (o := st0) (s := ⟨1, key, num⟩) K0 ?_ ?_ ?_ ?_); (· rfl); (· rfl); (· rfl)) | (go_at_call 31; refine hSc.out.mono ?_; rintro e w5 ⟨rfl, rfl⟩))
            go_roundw
            case rel => exact ⟨k + 1, S2, by omega, hS2l, rfl, by go_num, HR, hb3⟩
            case measure => simp [intOf]; omega
        · simp only at f1 f2 f3
          obtain rfl : kd = 2 := f1
          have hit := Tryd.strconv_Itoa num (by omega) (by omega) ((wr.alloc (.cells st0.cells.toArray 59)).setRow wr.heap.size (St.mk 2 key num).cells.toArray) (tb ((wr.alloc (.cells st0.cells.toArray 59)).setRow wr.heap.size (St.mk 2 key num).cells.toArray) (by rw [hw3]; exact b3'))
          have hIl := itoa_len num f2 f3
          unfold stepT at hX
          rw [if_pos rfl] at hX
          simp only at hX
          generalize Lib.itoa num = I at *
          have hI := Lib.hid (itoa_below hit)
          clear hit hw3
          obtain ⟨X1, hX1⟩ : ∃ X1, 91 :: I = X1 := ⟨_, rfl⟩
          have ha1 := fun (w : World) => add_lists (X := [91]) (Y := I) (Z := X1) (by rw [← hX1]; rfl) (by simp) (by omega) w
          have ha2 := fun (w : World) => add_lists (X := X1) (Y := [93]) (Z := X) (by rw [← hX, ← hX1]; rfl) (by rw [← hX1]; simp; omega) (by simp) w
          clear hX hX1 hIl
          go_wp2_with (first | ((with_reducible refine pl_load_st (b := b) (o := off + k * 3) hrk ?_ ?_ ?_); (· rfl); (· rfl)) | ((with_reducible refine pl_alloc_st ?_ ?_); (· rfl)) | ((with_reducible refine pl_store_st (b := wr.heap.size) (o := st0) (s := ⟨2, key, num⟩) K0 ?_ ?_ ?_ ?_); (· rfl); (· rfl); (· rfl)) | (go_at_call 30; refine hI.out.mono ?_; rintro e w4 ⟨rfl, hb4⟩))
          go_roundw
          case rel => exact ⟨k + 1, S2, by omega, hS2l, rfl, by go_num, HR, hb3.trans (hb4.mono hz3)⟩
          case measure => simp [intOf]; omega
        · simp only at f1 f2 f3
          obtain rfl : kd = 3 := f1
          have hit := Tryd.strconv_Itoa num (by omega) (by omega) ((wr.alloc (.cells st0.cells.toArray 59)).setRow wr.heap.size (St.mk 3 key num).cells.toArray) (tb ((wr.alloc (.cells st0.cells.toArray 59)).setRow wr.heap.size (St.mk 3 key num).cells.toArray) (by rw [hw3]; exact b3'))
          have hIl := itoa_len num f2 f3
          unfold stepT at hX
          rw [if_neg (show ¬ (3 : Int) = 2 by decide), if_pos rfl] at hX
          simp only at hX
          generalize Lib.itoa num = I at *
          have hI := Lib.hid (itoa_below hit)
          clear hit hw3
          have ha1 := fun (w : World) => add_lists (X := [126]) (Y := I) (Z := X) (by rw [← hX]; rfl) (by simp) (by omega) w
          clear hX hIl
          go_wp2_with (first | ((with_reducible refine pl_load_st (b := b) (o := off + k * 3) hrk ?_ ?_ ?_); (· rfl); (· rfl)) | ((with_reducible refine pl_alloc_st ?_ ?_); (· rfl)) | ((with_reducible refine pl_store_st (b := wr.heap.size) (o := st0) (s := ⟨3, key, num⟩) K0 ?_ ?_ ?_ ?_); (· rfl); (· rfl); (· rfl)) | (go_at_call 30; refine hI.out.mono ?_; rintro e w4 ⟨rfl, hb4⟩))
          go_roundw
          case rel => exact ⟨k + 1, S2, by omega, hS2l, rfl, by go_num, HR, hb3.trans (hb4.mono hz3)⟩
          case measure => simp [intOf]; omega
      · obtain rfl : k = l.length := by omega
        have hR := hr.out
        rw [List.drop_length, show stepsT [] = [] from rfl, List.append_nil] at hR
        subst hR
        clear hr
        go_wp2_with fail
        go_ret2
        exact ⟨rfl, hbel⟩
  · have z1 : (r != 0) = true := by simpa using h0
    rw [show printW l = [] from by unfold printW; rw [if_neg (by rw [hr]; exact h0)]]
    clear hr h0
    go_enter Tryd.func20, Tryd.ntmps20
    go_wp2_with (first | (go_at_call 17; refine hR0.out.mono ?_; rintro e w1 ⟨rfl, hb1⟩))
    go_ret2
    exact ⟨rfl, hb1⟩
set_option maxRecDepth 100000 in
set_option maxHeartbeats 8000000 in
theorem printRef_calls (a : Option Addr) (l : List St) (n cap : Nat) (w : World) (hn : n = l.length) (hl : l.length ≤ 140737488351232) (hK : KeysOk l) (h10 : Tab10 w) (hH : Sts w a l) :
    Calls Tryd.prog 21 #[.slice a n cap] w (PrintTo l w) := by
  subst hn
  have hR0 := Lib.hid (rightRef_calls a l l.length cap w rfl hl hK hH)
  unfold PrintTo
  obtain ⟨r, hr⟩ : ∃ r, rightW l = r := ⟨_, rfl⟩
  rw [hr] at hR0 ⊢
  by_cases h0 : r = 0
  · subst h0
    obtain ⟨hl32, hf⟩ := right_all hr
    have tb := Lib.tabBelow_of_tabIs h10
    obtain ⟨R, hRr⟩ : ∃ R, stepsT l = R := ⟨_, rfl⟩
    have hP := Lib.hid (show printW l = if l = [] then [47] else R from by unfold printW; rw [if_pos hr, hRr])
    have hne := Lib.hid (fun hz => steps_ne hf hz)
    rw [hRr] at hne
    generalize printW l = PW at *
    have HR : Hid ([] ++ stepsT (l.drop 0) = R) := Lib.hid hRr
    have q0 : (l.length : Int) ≤ 32 := by omega
    clear hRr hr
    go_enter Tryd.func21, Tryd.ntmps21
    go_wp2_with (first | (go_at_call 16; refine hR0.out.mono ?_; rintro e w1 ⟨rfl, hb1⟩))
    clear hR0
    go_loopw [5, 6] (fun sv i wr => ∃ (k : Nat) (S : List UInt8), k ≤ l.length ∧ S.length ≤ 400 * k ∧ sv = .string ⟨S.toArray⟩ ∧ i = .int .i64 k ∧ Hid (S ++ stepsT (l.drop k) = R) ∧ Below w.heap.size w wr) (fun _ i _ => l.length - (intOf i).toNat)
    case atStart => exact ⟨0, [], Nat.zero_le _, by simp, rfl, rfl, HR, hb1⟩
    case round =>
      clear HR hb1
      obtain ⟨k, S, hk, hS, rfl, rfl, hr, hbel⟩ := hrel
      by_cases hlt : k < l.length
      · obtain ⟨b, off, rfl, hb, hc⟩ := hH.addr (by omega)
        have hrk := rangeAt_below (hc k hlt) hbel hb
        have hfk := hf k hlt
        have hks := hK.at hlt
        have hR := hr.out
        rw [stepsT_drop l k hlt, ← List.append_assoc] at hR
        have hsl := stepT_len hfk
        generalize l.getD k st0 = s at *
        have hws := hbel.size
        obtain ⟨X, hX⟩ : ∃ X, stepT s = X := ⟨_, rfl⟩
        rw [hX] at hR hsl
        have had := fun (w : World) => add_lists (X := S) (Y := X) rfl (by omega) (by omega) w
        obtain ⟨S2, hS2⟩ : ∃ S2, S ++ X = S2 := ⟨_, rfl⟩
        rw [hS2] at hR had
        have hS2l : S2.length ≤ 400 * (k + 1) := by rw [← hS2]; simp; omega
        have HR := Lib.hid hR
        have p0 : (k : Int) < (l.length : Int) := by omega
        have p1 : (k : Int) ≤ 32 := by omega
        have hb3 := hbel
        have r3 := hrk
        have hz3 := hb3.size
        obtain ⟨w3, hw3⟩ : ∃ w3, wr = w3 := ⟨_, rfl⟩
        have b3' := hb3
        rw [hw3] at b3'
        have hz3' := b3'.size
        clear hr hc hR hS2 hsl
        obtain ⟨kd, key, num⟩ := s
        obtain ⟨c0, c1, c2⟩ := st_cells_at r3
        rcases fine_true hfk with ⟨f1, f2, f3⟩ | ⟨f1, f2, f3⟩ | ⟨f1, f2, f3⟩
        · simp only at f1 f2 f3
          obtain rfl : kd = 1 := f1
          have hsz := len_str key
          have hqc := quoteRef_calls key wr (by omega)
          unfold StrR at hqc
          have hsc := plainRef_calls key wr (by omega)
          unfold stepT at hX
          rw [if_neg (show ¬ (1 : Int) = 2 by decide), if_neg (show ¬ (1 : Int) = 3 by decide)] at hX
          simp only at hX
          rw [show key.data.toList.isEmpty = false by cases hq : key.data.toList with | nil => (rw [hq] at hsz; simp at hsz; omega) | cons _ _ => rfl, Bool.not_false, Bool.and_true] at hsc
          have hql := quote_len key.data.toList (by omega)
          generalize quoteR key.data.toList = Qd at *
          generalize simpleR key.data.toList = Bs at *
          have hQc := Lib.hid hqc
          have hSc := Lib.hid hsc
          clear hqc hsc hw3
          cases Bs
          · rw [if_neg (by decide)] at hX
            have ha1 := fun (w : World) => add_lists (X := [47]) (Y := Qd) (Z := X) (by rw [← hX]; rfl) (by simp) (by omega) w
            clear hX hsz f2 f3 hql
            go_wp2_with (first | (go_at_call 33; refine hSc.out.mono ?_; rintro e w5 ⟨rfl, rfl⟩) | (go_at_call 34; refine hQc.out.mono ?_; rintro e w4 ⟨rfl, hb4⟩))
            go_roundw
            case rel => exact ⟨k + 1, S2, by omega, hS2l, rfl, by go_num, HR, hb3.trans (hb4.mono hz3)⟩
            case measure => simp [intOf]; omega
          · rw [if_pos rfl] at hX
            have ha1 := fun (w : World) => add_lists (X := [47]) (Y := key.data.toList) (Z := X) (by rw [← hX]; rfl) (by simp) (by omega) w
            rw [show (⟨key.data.toList.toArray⟩ : ByteArray) = key from by simp] at ha1
            clear hX hsz f2 f3 hql
            go_wp2_with (first | (go_at_call 33; refine hSc.out.mono ?_; rintro e w5 ⟨rfl, rfl⟩))
            go_roundw
            case rel => exact ⟨k + 1, S2, by omega, hS2l, rfl, by go_num, HR, hb3⟩
            case measure => simp [intOf]; omega
        · simp only at f1 f2 f3
          obtain rfl : kd = 2 := f1
          have hit := Tryd.strconv_Itoa num (by omega) (by omega) wr (tb wr (by rw [hw3]; exact b3'))
          have hIl := itoa_len num f2 f3
          unfold stepT at hX
          rw [if_pos rfl] at hX
          simp only at hX
          generalize Lib.itoa num = I at *
          have hI := Lib.hid (itoa_below hit)
          clear hit hw3
          obtain ⟨X1, hX1⟩ : ∃ X1, 91 :: I = X1 := ⟨_, rfl⟩
          have ha1 := fun (w : World) => add_lists (X := [91]) (Y := I) (Z := X1) (by rw [← hX1]; rfl) (by simp) (by omega) w
          have ha2 := fun (w : World) => add_lists (X := X1) (Y := [93]) (Z := X) (by rw [← hX, ← hX1]; rfl) (by rw [← hX1]; simp; omega) (by simp) w
          clear hX hX1 hIl
          go_wp2_with (first | (go_at_call 30; refine hI.out.mono ?_; rintro e w4 ⟨rfl, hb4⟩))
          go_roundw
          case rel => exact ⟨k + 1, S2, by omega, hS2l, rfl, by go_num, HR, hb3.trans (hb4.mono hz3)⟩
          case measure => simp [intOf]; omega
        · simp only at f1 f2 f3
          obtain rfl : kd = 3 := f1
          have hit := Tryd.strconv_Itoa num (by omega) (by omega) wr (tb wr (by rw [hw3]; exact b3'))
          have hIl := itoa_len num f2 f3
          unfold stepT at hX
          rw [if_neg (show ¬ (3 : Int) = 2 by decide), if_pos rfl] at hX
          simp only at hX
          generalize Lib.itoa num = I at *
          have hI := Lib.hid (itoa_below hit)
          clear hit hw3
          have ha1 := fun (w : World) => add_lists (X := [126]) (Y := I) (Z := X) (by rw [← hX]; rfl) (by simp) (by omega) w
          clear hX hIl
          go_wp2_with (first | (go_at_call 30; refine hI.out.mono ?_; rintro e w4 ⟨rfl, hb4⟩))
          go_roundw
          case rel => exact ⟨k + 1, S2, by omega, hS2l, rfl, by go_num, HR, hb3.trans (hb4.mono hz3)⟩
          case measure => simp [intOf]; omega
      · obtain rfl : k = l.length := by omega
        have hR := hr.out
        rw [List.drop_length, show stepsT [] = [] from rfl, List.append_nil] at hR
        subst hR
        have hP := hP.out
        rcases Nat.eq_zero_or_pos l.length with hz | hz
        · obtain rfl : l = [] := List.eq_nil_of_length_eq_zero hz
          rw [if_pos rfl] at hP
          subst hP
          obtain rfl : S = [] := List.eq_nil_of_length_eq_zero (by simp at hS; exact congrArg List.length hS)
          clear hr hz hne
          go_wp2_with fail
          go_ret2
          exact ⟨rfl, hbel⟩
        · have hSp := hne.out hz
          rw [if_neg (by intro e; subst e; simp at hz)] at hP
          replace hP := hP.symm
          subst hP
          have n2 : S.isEmpty = false := by cases S with | nil => simp at hSp | cons _ _ => rfl
          clear hr hz hne hSp
          go_wp2_with fail
          go_ret2
          exact ⟨rfl, hbel⟩
  · have z1 : (r != 0) = true := by simpa using h0
    rw [show printW l = [] from by unfold printW; rw [if_neg (by rw [hr]; exact h0)]]
    clear hr h0
    go_enter Tryd.func21, Tryd.ntmps21
    go_wp2_with (first | (go_at_call 16; refine hR0.out.mono ?_; rintro e w1 ⟨rfl, hb1⟩))
    go_ret2
    exact ⟨rfl, hb1⟩
end Go.Proofs.YtoddjofckbfkhaaDoor.Wy
