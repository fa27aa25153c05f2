/- Plain: bytes of numbers. -/
import Derived.Test.YtoffgcigmpjmbaaCrc
import Derived.Laws.BitsLemmas
namespace Go.Proofs.Ytoffgcigmpjmbaa
open Go.RowKit
def bs (l : List UInt8) : ByteArray := ⟨l.toArray⟩
@[simp] theorem bs_toList (l : List UInt8) : (bs l).data.toList = l := rfl
@[simp] theorem bs_size (l : List UInt8) : (bs l).size = l.length := by simp [bs, ByteArray.size]
theorem bs_append (a b : List UInt8) : bs a ++ bs b = bs (a ++ b) := by
  unfold bs; apply ByteArray.ext; simp
theorem bs_of (s : ByteArray) : bs s.data.toList = s := rfl
theorem bs_nil : bs [] = ⟨#[]⟩ := rfl
def leB (n : Nat) : Nat → List UInt8
  | 0 => []
  | k + 1 => leB n k ++ [UInt8.ofNat (n / 256 ^ k % 256)]
@[simp] theorem leB_length (n k : Nat) : (leB n k).length = k := by induction k <;> simp_all [leB]
def encB (b : UInt8) : Value := .int .u8 (b.toNat : Int)
theorem set_mid {α : Type} (l : List α) (m j : Nat) (z v : α) (hl : l.length = j) (h : j < m) : (l ++ List.replicate (m - j) z).set j v = (l ++ [v]) ++ List.replicate (m - (j + 1)) z := by
  subst hl
  rw [List.set_append_right _ _ (Nat.le_refl _), Nat.sub_self, show m - l.length = (m - (l.length + 1)) + 1 from by omega, List.replicate_succ, List.set_cons_zero]
  simp
theorem put_byte (n : Int) (j : Nat) : (((if n < 0 then 0 else n) / 2 ^ (8 * j)) % 256) = ((UInt8.ofNat (n.toNat / 256 ^ j % 256)).toNat : Int) := by
  have e1 : (if n < 0 then 0 else n) = ((n.toNat : Nat) : Int) := by split <;> omega
  have e2 : (2 : Int) ^ (8 * j) = ((256 ^ j : Nat) : Int) := by
    rw [show (256 : Nat) = 2 ^ 8 from rfl, ← Nat.pow_mul]; exact (Int.natCast_pow 2 (8 * j)).symm
  rw [e1, e2, UInt8.toNat_ofNat']
  have : n.toNat / 256 ^ j % 256 % 2 ^ 8 = n.toNat / 256 ^ j % 256 := Nat.mod_eq_of_lt (Nat.lt_of_lt_of_le (Nat.mod_lt _ (by omega)) (by omega))
  rw [this]
  omega
theorem wraps_i64 (j : Nat) (hj : j ≤ 63) (n : Int) (h₀ : 0 ≤ n) (h₁ : n < 2 ^ j) : IntKind.i64.wrap n = n := by
  rw [IntKind.wrap_i64]
  have : (2 : Int) ^ j ≤ 2 ^ 63 := by exact_mod_cast Nat.pow_le_pow_right (n := 2) (by omega) hj
  omega
theorem i64_or_nat (a b : Nat) (ha : a < 9223372036854775808) (hb : b < 9223372036854775808) : bits .or .i64 (a : Int) (b : Int) = ((a ||| b : Nat) : Int) :=
  (bits_nat .i64 63 (by decide) (wraps_i64 63 (by omega)) a b ha hb).2
theorem i64_and_nat (a b : Nat) (ha : a < 9223372036854775808) (hb : b < 9223372036854775808) : bits .and .i64 (a : Int) (b : Int) = ((a &&& b : Nat) : Int) :=
  (bits_nat .i64 63 (by decide) (wraps_i64 63 (by omega)) a b ha hb).1
theorem or_byte (a b : Nat) (h : b < 256) : a * 256 ||| b = a * 256 + b := by
  have := Nat.two_pow_add_eq_or_of_lt (i := 8) (show b < 2 ^ 8 from h) a
  rw [Nat.mul_comm]; exact this.symm
theorem i64_or_byte (a b : Nat) (ha : a < 36028797018963968) (hb : b < 256) : bits .or .i64 ((a : Int) * 256) (b : Int) = ((a * 256 + b : Nat) : Int) := by
  rw [show ((a : Int) * 256) = ((a * 256 : Nat) : Int) from by omega, i64_or_nat _ _ (by omega) (by omega), or_byte a b hb]
def deB : List UInt8 → Nat
  | [] => 0
  | b :: l => b.toNat + 256 * deB l
theorem deB_lt (l : List UInt8) : deB l < 256 ^ l.length := by
  induction l with
  | nil => simp [deB]
  | cons b l ih =>
    simp only [deB, List.length_cons, Nat.pow_succ]
    have := b.toNat_lt
    omega
/-- The bytes of s from at on, k of them. -/
def sub (s : ByteArray) (at_ k : Nat) : List UInt8 := (s.data.toList.drop at_).take k
theorem sub_length (s : ByteArray) (a k : Nat) (h : a + k ≤ s.size) : (sub s a k).length = k := by
  simp only [sub, List.length_take, List.length_drop, Array.length_toList, ByteArray.size_data]; omega
theorem sub_cons (s : ByteArray) (a k : Nat) (h : a < s.size) : sub s a (k + 1) = s[a] :: sub s (a + 1) k := by
  unfold sub
  rw [List.drop_eq_getElem_cons (by simpa using h), List.take_succ_cons]
  rfl
theorem sub_deB_lt (s : ByteArray) (a k m : Nat) (h : a + k ≤ s.size) (hm : k ≤ m) : deB (sub s a k) < 256 ^ m := by
  have := deB_lt (sub s a k)
  rw [sub_length s a k h] at this
  exact Nat.lt_of_lt_of_le this (Nat.pow_le_pow_right (by omega) hm)
theorem tmod_nonneg (n m : Int) (h : 0 ≤ n) : n.tmod m = n % m := Int.tmod_eq_emod_of_nonneg h
theorem over_eq (n : Int) : (wrap64 (n.tmod 65536 + 65536)).tmod 65536 = n % 65536 := by
  have hb : -65536 < n.tmod 65536 ∧ n.tmod 65536 < 65536 ∧ (n.tmod 65536 + 65536) % 65536 = n % 65536 := by
    rcases Int.le_total 0 n with h | h
    · rw [tmod_nonneg n _ h]; omega
    · have e : n.tmod 65536 = -((-n) % 65536) := by
        have : n.tmod 65536 = -((-n).tmod 65536) := by rw [Int.neg_tmod]; omega
        rw [this, tmod_nonneg (-n) _ (by omega)]
      rw [e]; omega
  rw [IntWalk.wrap64_in _ ⟨by omega, by omega⟩, tmod_nonneg _ _ (by omega)]
  exact hb.2.2
end Go.Proofs.Ytoffgcigmpjmbaa
