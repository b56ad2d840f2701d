/- The plain laws of hashes and their digits (no program in sight). -/
import Derived.Test.YtdanbjpfojgmiaaHexL
import Derived.Lib.Bytealg
namespace Go.Proofs.Ytdanbjpfojgmiaa.Dg
open Mem

/-- A digit's number; -1: it is none. -/
def digI (c : UInt8) : Int := Lib.indexByte digitsL c
/-- Find a byte from place k on. -/
def digFrom (c : UInt8) : Nat → Nat → Int
  | 0, _ => -1
  | f + 1, k => if digitsL.getD k 0 = c then k else digFrom c f (k + 1)

theorem digFrom_lt (c : UInt8) : ∀ f k, digFrom c f k < (k + f : Nat) ∧ -1 ≤ digFrom c f k
  | 0, k => by simp only [digFrom]; omega
  | f + 1, k => by
    simp only [digFrom]
    split
    · omega
    · have := digFrom_lt c f (k + 1); omega

theorem digI_eq (c : UInt8) : digI c = digFrom c 16 0 := by
  have h : ∀ n : Fin 256, digI (UInt8.ofNat n.val) = digFrom (UInt8.ofNat n.val) 16 0 := by decide +kernel
  have := h ⟨c.toNat, c.toNat_lt⟩
  simpa using this
theorem digI_lt (c : UInt8) : digI c < 16 ∧ -1 ≤ digI c := by rw [digI_eq]; have := digFrom_lt c 16 0; omega

def stepH (h : List UInt8) (k : Nat) (v : UInt8) : List UInt8 := h.set (k / 2) (((h.getD (k / 2) 0) <<< 4) ||| v)
theorem length_stepH (h : List UInt8) (k : Nat) (v : UInt8) : (stepH h k v).length = h.length := by simp [stepH]
def z32 : List UInt8 := List.replicate 32 0

/-- Reading digits from place k on, n of them. -/
def unL (s : List UInt8) : Nat → Nat → List UInt8 → List UInt8 × Int × Int
  | 0, _, h => if s.length > 64 then (z32, 10, 64) else (h, 0, 0)
  | n + 1, k, h => if k < s.length then (if digI (s.getD k 0) < 0 then (z32, 10, (k : Int)) else unL s n (k + 1) (stepH h k (digI (s.getD k 0)).toNat.toUInt8)) else (z32, 10, (k : Int))
def unhexR (s : List UInt8) : List UInt8 × Int × Int := unL s 64 0 z32

def shortR (h : List UInt8) (n : Int) : List UInt8 := (hexL h).take (min (max n 0) 64).toNat

/-- Which of two rows comes first. -/
def cmpR : List UInt8 → List UInt8 → Int
  | a :: l, b :: m => if a < b then -1 else if b < a then 1 else cmpR l m
  | _, _ => 0

/-- The one hash that begins so. -/
def findR (p : List UInt8) : List (List UInt8) → Option (List UInt8) → List UInt8 × Int
  | [], none => (z32, 4)
  | [], some g => (g, 0)
  | h :: l, f => if p <+: hexL h then (match f with
      | some g => if g = h then findR p l (some h) else (z32, 11)
      | none => findR p l (some h)) else findR p l f
def plainR (p : List UInt8) : Bool := p.all fun c => decide (0 ≤ digI c)
def findAll (p : List UInt8) (l : List (List UInt8)) : List UInt8 × Int :=
  if p.length > 64 ∨ plainR p = false then (z32, 10) else findR p l none

def lcp : List UInt8 → List UInt8 → Nat
  | a :: l, b :: m => if a = b then lcp l m + 1 else 0
  | _, _ => 0
def leadJ (a : List UInt8) : List (List UInt8) → Nat → Nat
  | [], n => n
  | b :: l, n => leadJ a l (if a = b then n else max n (lcp (hexL a) (hexL b) + 1))
/-- 'l' behind 'pre'. -/
def leadI : List (List UInt8) → List (List UInt8) → Nat → Nat
  | _, [], n => n
  | pre, a :: l, n => leadI (pre ++ [a]) l (leadJ a pre n)
def leadR (l : List (List UInt8)) : Nat := leadI [] l 0
end Go.Proofs.Ytdanbjpfojgmiaa.Dg
