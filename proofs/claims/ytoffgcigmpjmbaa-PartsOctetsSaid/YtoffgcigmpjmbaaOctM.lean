/- Plain facts of the octets' law. -/
import Derived.Test.YtoffgcigmpjmbaaOctE
namespace Go.Proofs.Ytoffgcigmpjmbaa
open Go.RowKit
theorem deB_snoc (l : List UInt8) (b : UInt8) : deB (l ++ [b]) = deB l + 256 ^ l.length * b.toNat := by
  induction l with
  | nil => simp [deB]
  | cons a l ih =>
    rw [List.cons_append, deB, ih, deB, List.length_cons, Nat.pow_succ]
    have : 256 ^ l.length * 256 * b.toNat = 256 * (256 ^ l.length * b.toNat) := by rw [Nat.mul_comm (256 ^ l.length) 256, Nat.mul_assoc]
    omega
theorem deB_leB (n k : Nat) : deB (leB n k) = n % 256 ^ k := by
  induction k with
  | zero => simp [leB, deB, Nat.mod_one]
  | succ k ih =>
    rw [leB, deB_snoc, ih, leB_length, UInt8.toNat_ofNat']
    have e : n / 256 ^ k % 256 % 2 ^ 8 = n / 256 ^ k % 256 := Nat.mod_eq_of_lt (Nat.lt_of_lt_of_le (Nat.mod_lt _ (by omega)) (by omega))
    rw [e, Nat.pow_succ, Nat.mod_mul]
theorem sub_mid (a b c : ByteArray) : sub (a ++ b ++ c) a.size b.size = b.data.toList := by
  unfold sub
  simp only [ByteArray.data_append, Array.toList_append, List.append_assoc]
  rw [List.drop_append_of_le_length (by simp), show List.drop a.size a.data.toList = [] from List.drop_eq_nil_of_le (by simp), List.nil_append]
  rw [List.take_append_of_le_length (by simp), List.take_of_length_le (by simp)]
theorem mask_eq (n k : Nat) (hn : n < 9223372036854775808) (h1 : 1 ≤ k) (h2 : k ≤ 7) : bits .and .i64 (n : Int) (((2 ^ (8 * k) - 1 : Nat)) : Int) = ((n % 256 ^ k : Nat) : Int) := by
  have h3 : 2 ^ (8 * k) ≤ 2 ^ 56 := Nat.pow_le_pow_right (by omega) (by omega)
  rw [i64_and_nat _ _ hn (by omega), Nat.and_two_pow_sub_one_eq_mod, show (256 : Nat) = 2 ^ 8 from rfl, ← Nat.pow_mul]
theorem mask_ok (n k X : Nat) (hn : n < 9223372036854775808) (h1 : 1 ≤ k) (h2 : k ≤ 7) (hX : X = n % 256 ^ k) :
    ((X : Int) != bits .and .i64 (n : Int) (wrap64 (wrap64 ((2 : Int) ^ (8 * k)) - 1))) = false := by
  have h3 : 2 ^ (8 * k) ≤ 2 ^ 56 := Nat.pow_le_pow_right (by omega) (by omega)
  have h4 : 0 < 2 ^ (8 * k) := Nat.two_pow_pos _
  have e : (2 : Int) ^ (8 * k) = ((2 ^ (8 * k) : Nat) : Int) := (Int.natCast_pow 2 (8 * k)).symm
  rw [e, IntWalk.wrap64_in ((2 ^ (8 * k) : Nat) : Int) ⟨by omega, by omega⟩, IntWalk.wrap64_in (((2 ^ (8 * k) : Nat) : Int) - 1) ⟨by omega, by omega⟩,
    show ((2 ^ (8 * k) : Nat) : Int) - 1 = ((2 ^ (8 * k) - 1 : Nat) : Int) from by omega, mask_eq n k hn h1 h2, hX]
  simp
theorem z_size : (⟨#[122]⟩ : ByteArray).size = 1 := rfl
theorem x_size : (⟨#[120]⟩ : ByteArray).size = 1 := rfl
/-! ### The checksum tells one turned bit. -/
theorem xor_rc {a b c : Nat} (h : a ^^^ c = b ^^^ c) : a = b := by
  have := congrArg (· ^^^ c) h
  simpa [Nat.xor_assoc] using this
theorem xor_lc {a b c : Nat} (h : c ^^^ a = c ^^^ b) : a = b := xor_rc (c := c) (by rwa [Nat.xor_comm a, Nat.xor_comm b])
theorem crc1_inj {x y : Nat} (hx : x < 4294967296) (hy : y < 4294967296) (h : crc1 x = crc1 y) : x = y := by
  have top : ∀ z, z < 4294967296 → (crc1 z).testBit 31 = decide (z % 2 = 1) := by
    intro z hz
    have hlow : (z / 2).testBit 31 = false := Nat.testBit_lt_two_pow (show z / 2 < 2 ^ 31 by omega)
    unfold crc1
    split
    · rename_i h1
      rw [Nat.testBit_xor, hlow, h1]; rfl
    · rename_i h1
      rw [hlow]; simp [h1]
  have hp : x % 2 = y % 2 := by
    have h2 := top x hx
    rw [h, top y hy] at h2
    have := decide_eq_decide.1 h2
    omega
  have hd : x / 2 = y / 2 := by
    unfold crc1 at h
    by_cases h1 : x % 2 = 1
    · rw [if_pos h1, if_pos (by omega)] at h
      exact xor_rc h
    · rw [if_neg h1, if_neg (by omega)] at h
      exact h
  omega
theorem crcN_inj (n : Nat) {x y : Nat} (hx : x < 4294967296) (hy : y < 4294967296) (h : crcN n x = crcN n y) : x = y := by
  induction n with
  | zero => exact h
  | succ n ih => exact ih (crc1_inj (crcN_lt hx) (crcN_lt hy) h)
theorem crcB_inj {x y b : Nat} (hb : b < 256) (hx : x < 4294967296) (hy : y < 4294967296) (h : crcB x b = crcB y b) : x = y :=
  xor_rc (crcN_inj 8 (xor_lt32 hx (by omega)) (xor_lt32 hy (by omega)) h)
theorem crcB_inj2 {x b d : Nat} (hb : b < 256) (hd : d < 256) (hx : x < 4294967296) (h : crcB x b = crcB x d) : b = d :=
  xor_lc (crcN_inj 8 (xor_lt32 hx (by omega)) (xor_lt32 hx (by omega)) h)
theorem crcL_inj (l : List UInt8) {x y : Nat} (hx : x < 4294967296) (hy : y < 4294967296) (h : crcL x l = crcL y l) : x = y := by
  induction l generalizing x y with
  | nil => exact h
  | cons b l ih => exact crcB_inj b.toNat_lt hx hy (ih (crcB_lt hx b.toNat_lt) (crcB_lt hy b.toNat_lt) h)
theorem crcL_set (l : List UInt8) (i : Nat) (h : i < l.length) (b : UInt8) (hb : b ≠ l[i]) {x : Nat} (hx : x < 4294967296) : crcL x (l.set i b) ≠ crcL x l := by
  induction l generalizing i x with
  | nil => simp at h
  | cons a l ih =>
    cases i with
    | zero =>
      intro he
      have h1 : crcL (crcB x b.toNat) l = crcL (crcB x a.toNat) l := he
      have h2 := crcL_inj l (crcB_lt hx b.toNat_lt) (crcB_lt hx a.toNat_lt) h1
      have h3 := crcB_inj2 b.toNat_lt a.toNat_lt hx h2
      exact hb (UInt8.toNat_inj.1 h3)
    | succ i => exact ih i (by simpa using h) (by simpa using hb) (crcB_lt hx a.toNat_lt)
theorem crcOf_set (l : List UInt8) (i : Nat) (h : i < l.length) (b : UInt8) (hb : b ≠ l[i]) : crcOf (l.set i b) ≠ crcOf l := by
  have h1 := crcL_set l i h b hb (x := 4294967295) (by omega)
  have h2 := crcL_lt (x := 4294967295) l (by omega)
  have h3 := crcL_lt (x := 4294967295) (l.set i b) (by omega)
  unfold crcOf
  omega
theorem leB_inj {x y k : Nat} (hx : x < 256 ^ k) (hy : y < 256 ^ k) (h : leB x k = leB y k) : x = y := by
  have h1 := congrArg deB h
  rwa [deB_leB, deB_leB, Nat.mod_eq_of_lt hx, Nat.mod_eq_of_lt hy] at h1
theorem flip_ne (b : UInt8) (i : Nat) (hi : i < 8) : UInt8.ofNat ((b.toNat ^^^ 2 ^ i) % 256) ≠ b := by
  intro h
  have h1 := congrArg UInt8.toNat h
  have h2 := b.toNat_lt
  have h3 : 2 ^ i ≤ 2 ^ 7 := Nat.pow_le_pow_right (by omega) (by omega)
  have h4 : b.toNat ^^^ 2 ^ i < 256 := Nat.xor_lt_two_pow (n := 8) h2 (by omega)
  rw [UInt8.toNat_ofNat', Nat.mod_eq_of_lt h4, Nat.mod_eq_of_lt h4] at h1
  have h5 : b.toNat ^^^ 2 ^ i = b.toNat ^^^ 0 := by rw [h1, Nat.xor_zero]
  have h6 := xor_lc h5
  have := Nat.two_pow_pos i
  omega
/-- One byte of what was sealed is another one: it is not sealed. -/
theorem unsealed (l : List UInt8) (i : Nat) (b : UInt8) (h : i < l.length + 4) (hb : b ≠ (l ++ leB (crcOf l) 4)[i]'(by simpa using h)) :
    ((l ++ leB (crcOf l) 4).set i b).drop l.length ≠ leB (crcOf (((l ++ leB (crcOf l) 4).set i b).take l.length)) 4 := by
  by_cases hi : i < l.length
  · rw [List.set_append_left _ _ hi, List.drop_append_of_le_length (by simp), List.drop_eq_nil_of_le (by simp), List.nil_append]
    rw [List.take_append_of_le_length (by simp), List.take_of_length_le (by simp)]
    intro h1
    have h2 := leB_inj (k := 4) (by have := crcOf_lt l; omega) (by have := crcOf_lt (l.set i b); omega) h1
    refine crcOf_set l i hi b ?_ h2.symm
    rwa [List.getElem_append_left hi] at hb
  · have hi' : l.length ≤ i := by omega
    rw [List.set_append_right _ _ hi', List.drop_append_of_le_length (Nat.le_refl _), List.drop_length, List.nil_append]
    rw [List.take_append_of_le_length (Nat.le_refl _), List.take_length]
    intro h1
    rw [List.getElem_append_right hi'] at hb
    have h2 : i - l.length < (leB (crcOf l) 4).length := by simp; omega
    have h3 : ((leB (crcOf l) 4).set (i - l.length) b)[i - l.length]'(by simpa using h2) = (leB (crcOf l) 4)[i - l.length] := by
      simp only [h1]
    rw [List.getElem_set_self] at h3
    exact hb h3
theorem str_sub (a T : ByteArray) (s : ByteArray) (h : T.data.toList = leB s.size 2 ++ s.data.toList) (hs : s.size ≤ 80) :
    deB (sub (a ++ T ++ a) a.size 2) = s.size ∧ bs (sub (a ++ T ++ a) (a.size + 2) s.size) = s := by
  have e : (a ++ T ++ a).data.toList = a.data.toList ++ (leB s.size 2 ++ (s.data.toList ++ a.data.toList)) := by
    simp [ByteArray.data_append, Array.toList_append, h]
  constructor
  · unfold sub
    rw [e, List.drop_append_of_le_length (by simp), List.drop_eq_nil_of_le (by simp), List.nil_append, List.take_append_of_le_length (by simp), List.take_of_length_le (by simp), deB_leB]
    omega
  · unfold sub
    rw [e, show a.size + 2 = a.data.toList.length + (leB s.size 2).length from by simp, ← List.drop_drop, List.drop_left, List.drop_left, List.take_append_of_le_length (by simp), List.take_of_length_le (by simp)]
    rfl
theorem cut_sub (T s : ByteArray) (h : T.data.toList = leB s.size 2 ++ s.data.toList) (hs : s.size ≤ 80) (h1 : 1 ≤ s.size) : deB (sub (T.extract 0 (s.size + 1)) 0 2) = s.size := by
  unfold sub
  rw [Lib.extract_data, h, List.drop_zero, List.drop_zero, List.take_take, show min 2 (s.size + 1 - 0) = 2 from by omega, List.take_append_of_le_length (by simp), List.take_of_length_le (by simp), deB_leB]
  omega
theorem words_step (S P : ByteArray) (ws : List Int) (j q : Nat) (h : j < ws.length) (hS : S = bs (wordsB (ws.take j))) (hq : ws[j] % 65536 = (q : Int)) (hP : bs (leB q 2) = P) : S ++ P = bs (wordsB (ws.take (j + 1))) := by
  rw [hS, ← hP, bs_append, wordsB_take ws j h]
  congr 2
  have e1 : (ws[j] % 256).toNat = q % 256 := by omega
  have e2 : (ws[j] / 256 % 256).toNat = q / 256 % 256 := by omega
  rw [e1, e2]
  simp [leB]
theorem ovs_step (ws : List Int) (j : Nat) (h : j < ws.length) : ((ws.take (j + 1)).map (· % 65536)).map (Value.int .i64) = ((ws.take j).map (· % 65536)).map (Value.int .i64) ++ [.int .i64 (ws[j] % 65536)] := by
  rw [List.take_succ_eq_append_getElem h, List.map_append, List.map_append]; rfl
theorem ints_step (ws : List Int) (j : Nat) (h : j < ws.length) : (ws.take (j + 1)).map (Value.int .i64) = (ws.take j).map (Value.int .i64) ++ [.int .i64 ws[j]] := by
  rw [List.take_succ_eq_append_getElem h, List.map_append]; rfl
theorem wordAt_words (l : List Int) (i : Nat) (h : i < l.length) : wordAt (bs (wordsB l)) i = l[i] % 65536 := by
  have key : ∀ (l : List Int) (i : Nat) (h : i < l.length), (wordsB l).getD (2 * i) 0 = UInt8.ofNat (l[i] % 256).toNat ∧ (wordsB l).getD (2 * i + 1) 0 = UInt8.ofNat (l[i] / 256 % 256).toNat := by
    intro l
    induction l with
    | nil => intro i h; simp at h
    | cons x l ih =>
      intro i h
      cases i with
      | zero => exact ⟨rfl, rfl⟩
      | succ i =>
        have := ih i (by simpa using h)
        exact this
  obtain ⟨k1, k2⟩ := key l i h
  unfold wordAt
  rw [bs_toList, k1, k2, UInt8.toNat_ofNat', UInt8.toNat_ofNat']
  omega
theorem words_back (ws : List Int) (m : Nat) (h : m ≤ ws.length) : (List.range m).map (wordAt (bs (wordsB (ws.take m)))) = (ws.take m).map (· % 65536) := by
  apply List.ext_getElem
  · simp; omega
  · intro i h1 h2
    simp only [List.getElem_map, List.getElem_range]
    rw [wordAt_words _ i (by simpa using h2)]
theorem xor_flip (b : UInt8) (k : Nat) (hk : k < 8) : bits .xor .u8 ((b.toNat : Nat) : Int) ((2 : Int) ^ k % 256) = ((UInt8.ofNat ((b.toNat ^^^ 2 ^ k) % 256)).toNat : Int) := by
  have h1 : 2 ^ k ≤ 2 ^ 7 := Nat.pow_le_pow_right (by omega) (by omega)
  have h2 := b.toNat_lt
  have e0 : (2 : Int) ^ k = ((2 ^ k : Nat) : Int) := (Int.natCast_pow 2 k).symm
  rw [e0]
  generalize 2 ^ k = p at *
  have e : (p : Int) % 256 = (p : Int) := by omega
  have h3 : b.toNat ^^^ p < 256 := Nat.xor_lt_two_pow (n := 8) h2 (by omega)
  rw [e, u8_xor_nat _ _ (by omega) (by omega), UInt8.toNat_ofNat', Nat.mod_eq_of_lt h3, Nat.mod_eq_of_lt (by omega)]
end Go.Proofs.Ytoffgcigmpjmbaa
