/- Plain facts about the CRC-32: it goes bit by bit, and it is linear (no program in sight). -/
import Derived.KernelRfl
namespace Go.Proofs.Ytdanbjpfojgmiaa.Dg

def crcBit (r : BitVec 32) : BitVec 32 := if r &&& 1#32 = 1#32 then (r >>> 1) ^^^ 3988292384#32 else r >>> 1
def crcBits (r : BitVec 32) : Nat → BitVec 32
  | 0 => r
  | k + 1 => crcBit (crcBits r k)
def crcByte (r : BitVec 32) (c : BitVec 8) : BitVec 32 := crcBits (r ^^^ c.setWidth 32) 8
def crcTo (bs : List (BitVec 8)) : BitVec 32 := bs.foldl crcByte (~~~ 0#32)
def crc (bs : List (BitVec 8)) : BitVec 32 := ~~~ crcTo bs

theorem bit_cases (r : BitVec 32) : r &&& 1#32 = 0#32 ∨ r &&& 1#32 = 1#32 := by
  rcases Nat.mod_two_eq_zero_or_one r.toNat with h | h
  · left; apply BitVec.eq_of_toNat_eq; simp [BitVec.toNat_and, Nat.and_one_is_mod, h]
  · right; apply BitVec.eq_of_toNat_eq; simp [BitVec.toNat_and, Nat.and_one_is_mod, h]

theorem crcBit_lin (a b c : BitVec 32) : crcBit (a ^^^ b ^^^ c) = crcBit a ^^^ crcBit b ^^^ crcBit c := by
  have ha := bit_cases a
  have hb := bit_cases b
  have hc := bit_cases c
  have e : (a ^^^ b ^^^ c) &&& 1#32 = (a &&& 1#32) ^^^ (b &&& 1#32) ^^^ (c &&& 1#32) := by
    apply BitVec.eq_of_getLsbD_eq
    intro i hi
    simp only [BitVec.getLsbD_and, BitVec.getLsbD_xor]
    cases a.getLsbD i <;> cases b.getLsbD i <;> cases c.getLsbD i <;> cases (1#32).getLsbD i <;> rfl
  have s : (a ^^^ b ^^^ c) >>> 1 = (a >>> 1) ^^^ (b >>> 1) ^^^ (c >>> 1) := by
    rw [BitVec.ushiftRight_xor_distrib, BitVec.ushiftRight_xor_distrib]
  unfold crcBit
  rw [e, s]
  generalize a >>> 1 = x
  generalize b >>> 1 = y
  generalize c >>> 1 = z
  generalize 3988292384#32 = p
  rcases ha with ha | ha <;> rcases hb with hb | hb <;> rcases hc with hc | hc <;> rw [ha, hb, hc] <;> (simp only [BitVec.xor_zero, BitVec.zero_xor]; simp; try (apply BitVec.eq_of_getLsbD_eq; intro i hi; simp only [BitVec.getLsbD_xor]; cases x.getLsbD i <;> cases y.getLsbD i <;> cases z.getLsbD i <;> cases p.getLsbD i <;> rfl))

theorem crcBits_lin (a b c : BitVec 32) (k : Nat) : crcBits (a ^^^ b ^^^ c) k = crcBits a k ^^^ crcBits b k ^^^ crcBits c k := by
  induction k with
  | zero => rfl
  | succ k ih => simp only [crcBits, ih, crcBit_lin]

theorem crcByte_lin (a b c : BitVec 32) (x y z : BitVec 8) : crcByte (a ^^^ b ^^^ c) (x ^^^ y ^^^ z) = crcByte a x ^^^ crcByte b y ^^^ crcByte c z := by
  unfold crcByte
  rw [← crcBits_lin]
  congr 1
  rw [BitVec.setWidth_xor, BitVec.setWidth_xor]
  ac_rfl

theorem foldl_lin : ∀ (xs ys zs : List (BitVec 8)) (a b c : BitVec 32), ys.length = xs.length → zs.length = xs.length →
    (List.zipWith (· ^^^ ·) (List.zipWith (· ^^^ ·) xs ys) zs).foldl crcByte (a ^^^ b ^^^ c) = xs.foldl crcByte a ^^^ ys.foldl crcByte b ^^^ zs.foldl crcByte c
  | [], ys, zs, a, b, c, hy, hz => by
    obtain rfl := List.length_eq_zero_iff.mp hy
    obtain rfl := List.length_eq_zero_iff.mp hz
    rfl
  | x :: xs, y :: ys, z :: zs, a, b, c, hy, hz => by
    simp only [List.zipWith_cons_cons, List.foldl_cons]
    rw [crcByte_lin]
    exact foldl_lin xs ys zs _ _ _ (by simpa using hy) (by simpa using hz)
  | _ :: _, [], _, _, _, _, hy, _ => by simp at hy
  | _ :: _, _ :: _, [], _, _, _, _, hz => by simp at hz

/-- Of three rows of as many bytes the sum of their exclusive or is the exclusive or of their sums. -/
theorem crc_lin (xs ys zs : List (BitVec 8)) (hy : ys.length = xs.length) (hz : zs.length = xs.length) :
    crc (List.zipWith (· ^^^ ·) (List.zipWith (· ^^^ ·) xs ys) zs) = crc xs ^^^ crc ys ^^^ crc zs := by
  unfold crc crcTo
  have h := foldl_lin xs ys zs (~~~ 0#32) (~~~ 0#32) (~~~ 0#32) hy hz
  rw [show (~~~ 0#32) ^^^ (~~~ 0#32) ^^^ (~~~ 0#32) = ~~~ 0#32 from by decide] at h
  rw [h]
  generalize xs.foldl crcByte _ = a
  generalize ys.foldl crcByte _ = b
  generalize zs.foldl crcByte _ = c
  apply BitVec.eq_of_getLsbD_eq
  intro i hi
  simp only [BitVec.getLsbD_not, BitVec.getLsbD_xor, hi]
  cases a.getLsbD i <;> cases b.getLsbD i <;> cases c.getLsbD i <;> rfl

theorem crcTo_nil : crcTo [] = ~~~ 0#32 := rfl
theorem crcTo_snoc (bs : List (BitVec 8)) (c : BitVec 8) : crcTo (bs ++ [c]) = crcByte (crcTo bs) c := by simp [crcTo]
theorem crc_known : crc [49#8, 50#8, 51#8, 52#8, 53#8, 54#8, 55#8, 56#8, 57#8] = 3421780262#32 := by decide +kernel

end Go.Proofs.Ytdanbjpfojgmiaa.Dg
