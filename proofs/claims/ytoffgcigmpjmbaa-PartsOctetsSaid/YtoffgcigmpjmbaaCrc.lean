/- Plain: the checksum, bit by bit. -/
import Derived.WalkKit
import Derived.Laws.BitsAllLaws
namespace Go.Proofs.Ytoffgcigmpjmbaa
def crc1 (x : Nat) : Nat := if x % 2 = 1 then (x / 2) ^^^ 3988292384 else x / 2
def crcN : Nat → Nat → Nat
  | 0, x => x
  | n + 1, x => crc1 (crcN n x)
def crcB (x b : Nat) : Nat := crcN 8 (x ^^^ b)
def crcL (x : Nat) (l : List UInt8) : Nat := l.foldl (fun x b => crcB x b.toNat) x
def crcOf (l : List UInt8) : Nat := 4294967295 - crcL 4294967295 l

theorem xor_lt32 {a b : Nat} (ha : a < 4294967296) (hb : b < 4294967296) : a ^^^ b < 4294967296 := Nat.xor_lt_two_pow (n := 32) ha hb
theorem crc1_lt {x : Nat} (h : x < 4294967296) : crc1 x < 4294967296 := by
  unfold crc1
  split
  · exact xor_lt32 (by omega) (by omega)
  · omega
theorem crcN_lt {n x : Nat} (h : x < 4294967296) : crcN n x < 4294967296 := by
  induction n with
  | zero => exact h
  | succ n ih => exact crc1_lt ih
theorem crcB_lt {x b : Nat} (h : x < 4294967296) (hb : b < 256) : crcB x b < 4294967296 := crcN_lt (xor_lt32 h (by omega))
theorem crcL_lt {x : Nat} (l : List UInt8) (h : x < 4294967296) : crcL x l < 4294967296 := by
  induction l generalizing x with
  | nil => exact h
  | cons b l ih => exact ih (crcB_lt h b.toNat_lt)
theorem crcL_append (x : Nat) (a b : List UInt8) : crcL x (a ++ b) = crcL (crcL x a) b := by simp [crcL]
theorem crcL_snoc (x : Nat) (a : List UInt8) (b : UInt8) : crcL x (a ++ [b]) = crcB (crcL x a) b.toNat := by simp [crcL]
theorem xor_ones32 (x : Nat) (h : x < 4294967296) : 4294967295 ^^^ x = 4294967295 - x := by
  apply Nat.eq_of_testBit_eq
  intro i
  have e1 : 4294967295 - x = 2 ^ 32 - (x + 1) := by omega
  rw [e1, Nat.testBit_two_pow_sub_succ (by omega), Nat.testBit_xor, show (4294967295 : Nat) = 2 ^ 32 - 1 from rfl, Nat.testBit_two_pow_sub_one]
  by_cases hi : i < 32
  · simp [hi]
  · have : x.testBit i = false := Nat.testBit_lt_two_pow (Nat.lt_of_lt_of_le h (Nat.pow_le_pow_right (n := 2) (by omega) (by omega : 32 ≤ i)))
    simp [hi, this]
theorem bits_ones32 (x : Nat) (h : x < 4294967296) : bits .xor .u32 IntKind.u32.max (x : Int) = ((4294967295 - x : Nat) : Int) := by
  rw [show IntKind.u32.max = ((4294967295 : Nat) : Int) from rfl, u32_xor_nat _ _ (by omega) h, xor_ones32 x h]
end Go.Proofs.Ytoffgcigmpjmbaa
