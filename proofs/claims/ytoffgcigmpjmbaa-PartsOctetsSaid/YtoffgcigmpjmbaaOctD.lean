import Derived.Test.YtoffgcigmpjmbaaOctC
import Derived.OwnWalk
namespace Go.Proofs.Ytoffgcigmpjmbaa
open Go.RowKit
/-- The words as bytes. -/
def wordsB : List Int → List UInt8
  | [] => []
  | x :: l => UInt8.ofNat (x % 256).toNat :: UInt8.ofNat (x / 256 % 256).toNat :: wordsB l
theorem wordsB_append (a b : List Int) : wordsB (a ++ b) = wordsB a ++ wordsB b := by induction a <;> simp_all [wordsB]
theorem wordsB_length (a : List Int) : (wordsB a).length = 2 * a.length := by induction a <;> simp_all [wordsB] <;> omega
theorem wordsB_take (l : List Int) (k : Nat) (h : k < l.length) : wordsB (l.take (k + 1)) = wordsB (l.take k) ++ [UInt8.ofNat (l[k] % 256).toNat, UInt8.ofNat (l[k] / 256 % 256).toNat] := by
  rw [List.take_succ_eq_append_getElem h, wordsB_append]; rfl
theorem encB_mod (x : Int) : Value.int .u8 (x % 256) = encB (UInt8.ofNat (x % 256).toNat) := by
  unfold encB; congr 1; rw [UInt8.toNat_ofNat']; omega
set_option maxHeartbeats 400000 in
set_option maxRecDepth 10000 in
theorem putwords_ok (A : Option Addr) (c : Nat) (xs : List Int) (w : World) (hx : Rd w (Value.int .i64) A xs) (hl : xs.length ≤ 1000) :
    Calls Try.prog 17 #[.slice A xs.length c] w fun e w' => e = .returned (.string (bs (wordsB xs))) ∧ Below w.heap.size w w' := by
  obtain ⟨i0, hi, hz0, hz1, hz2⟩ := info_parts info5
  have HX := Lib.hid hx
  clear hx
  go_enter Try.func17, Try.ntmps17
  go_wp2_with (refine wpList_make_own _ rfl (.const (.int .i64 0)) (.tmp 8) 40 rfl w.heap.size 5 i0 (.int .u8 0) 1 Try.underlying40 hi hz0 hz1 .i64 .i64 _ (2 * xs.length) rfl rfl (by omega) (by rw [hz2]; omega) (by unfold maxLen; omega) (Nat.le_refl _) ?_; intro w1 hown hgr)
  have hb1 := (Below.refl w.heap.size w).grown hgr (Nat.le_refl _) (by simp)
  clear hgr
  go_loopw [3, 12] (fun v3 v12 wr => ∃ j : Nat, j ≤ xs.length ∧ v12 = .int .i64 j ∧ Hid (wr.ownsRow w.heap.size 5 1 v3 (2 * j) ((wordsB (xs.take j)).map encB)) ∧ Below w.heap.size w wr) (fun _ v12 _ => xs.length - (intOf v12).toNat)
  case atStart => exact ⟨0, by omega, rfl, hown, hb1⟩
  case round =>
    clear hown hb1
    obtain ⟨j, hj, rfl, hown, hb⟩ := hrel
    by_cases hlt : j < xs.length
    · obtain ⟨b, o, rfl, hcx⟩ := HX.out j hlt
      have hcell : wr.cell? ⟨b, o + j, none⟩ = some (.int .i64 xs[j]) := by rw [hb.cell (p := ⟨b, o + j, none⟩) (World.block_lt_of_cell? w _ hcx)]; exact hcx
      clear hcx
      go_wp2_with (at_builtin; refine append_lit w wr rfl (.tmp 16) (.tmp 22) 40 rfl 5 i0 (.int .u8 0) 1 1 Try.underlying40 hi hz0 hz1 hz2 rfl (by decide) u3 _ _ rfl hown.out 2 [.int .u8 (xs[j] % 256), .int .u8 (xs[j] / 256 % 256)] rfl rfl (by simp [Value.oneCell']) (by unfold maxLen; omega) (by omega) hb ?_; intro v1 w1 hown1 hb1)
      refine ⟨⟨j + 1, by omega, by go_num, ?_, hb1⟩, by simp [intOf]; omega⟩
      show World.ownsRow _ _ _ _ _ _ _
      rw [wordsB_take xs j hlt, List.map_append, show 2 * (j + 1) = 2 * j + 2 from by omega]
      rw [encB_mod, encB_mod] at hown1
      exact hown1
    · obtain rfl : j = xs.length := by omega
      have hcv := cv_bytes_any hown.out
      go_wp2
      go_ret
      exact ⟨ret_str rfl, hb⟩

set_option maxHeartbeats 400000 in
set_option maxRecDepth 10000 in
theorem sum_ok (a : Addr) (c : Nat) (s : ByteArray) (w : World) (ha : w.cell? a = some (.string s)) (hsp : a.spot = none) (hs : s.size ≤ 140737488351232) :
    Calls Try.prog 104 #[.slice (some a) 1 c] w fun e w' => e = .returned (.int .i64 (crcOf s.data.toList)) ∧ w' = w := by
  obtain ⟨b, o, sp⟩ := a
  obtain rfl : sp = none := hsp
  go_enter Try.func104, Try.ntmps104
  go_wp2
  refine wp_loop_rounds 2 ?_
  rw [rounds_succ]
  go_wp2
  go_loop [3, 16] (fun c i => ∃ (x : Nat) (k : Nat), k ≤ s.size ∧ x < 4294967296 ∧ i = .int .i64 k ∧ c = .int .u32 x ∧ Hid (x = crcL 4294967295 (s.data.toList.take k))) (fun _ i => s.size - (intOf i).toNat)
  case atStart => exact ⟨4294967295, 0, by omega, by omega, rfl, rfl, rfl⟩
  case round =>
    obtain ⟨x, k, hk, hx, rfl, rfl, HV⟩ := hrel
    by_cases hlt : k < s.size
    · have e0 : ((s[k].toNat : Int) % 4294967296) = ((s[k].toNat : Nat) : Int) := by have := s[k].toNat_lt; omega
      have e1 : bits .xor .u32 (x : Int) ((s[k].toNat : Nat) : Int) = ((x ^^^ s[k].toNat : Nat) : Int) := u32_xor_nat _ _ hx (by have := s[k].toNat_lt; omega)
      have hy : x ^^^ s[k].toNat < 4294967296 := xor_lt32 hx (by have := s[k].toNat_lt; omega)
      go_wp2
      clear e0 e1
      have HY : Hid (crcB x s[k].toNat = crcL 4294967295 (s.data.toList.take (k + 1))) := by
        rw [take_snoc' s k hlt, crcL_snoc, ← HV.out]; exact Lib.hid rfl
      generalize hz : x ^^^ s[k].toNat = y at *
      have HZ := Lib.hid hz; clear hz HV
      go_loop [3, 25] (fun c i => ∃ (z : Nat) (j : Nat), j ≤ 8 ∧ z < 4294967296 ∧ i = .int .i64 j ∧ c = .int .u32 z ∧ Hid (z = crcN j y)) (fun _ i => 8 - (intOf i).toNat)
      case atStart => exact ⟨y, 0, by omega, hy, rfl, rfl, rfl⟩
      case round =>
        obtain ⟨z, j, hj, hz, rfl, rfl, HV⟩ := hrel
        by_cases hlj : j < 8
        · have e2 : bits .and .u32 (z : Int) 1 = ((z % 2 : Nat) : Int) := by rw [show (1 : Int) = ((1 : Nat) : Int) from rfl, u32_and_nat _ _ hz (by omega), nat_mask1]
          have hm2 : z % 2 < 2 := Nat.mod_lt _ (by omega)
          have e4 : bits .xor .u32 ((z : Int) / 2) ((z : Int) % 2 * 3988292384) = ((crc1 z : Nat) : Int) := by
            rw [show ((z : Int) / 2) = ((z / 2 : Nat) : Int) from by omega, show ((z : Int) % 2 * 3988292384) = ((z % 2 * 3988292384 : Nat) : Int) from by omega, u32_xor_nat _ _ (by omega) (by omega)]
            congr 1
            unfold crc1
            split
            · rename_i h; rw [h]
            · rw [show z % 2 = 0 from by omega]; simp
          go_wp2
          refine ⟨⟨crc1 z, j + 1, by omega, crc1_lt hz, by go_num, rfl, ?_⟩, by simp [intOf]; omega⟩
          show crc1 z = crcN (j + 1) y
          rw [HV.out]; rfl
        · obtain rfl : j = 8 := by omega
          go_wp2
          go_round
          case rel => exact ⟨z, k + 1, by omega, hz, by go_num, rfl, by show z = _; rw [← HY.out, HV.out, ← HZ.out]; rfl⟩
          case measure => simp [intOf]; omega
    · obtain rfl : k = s.size := by omega
      go_wp2
      rw [rounds_succ]
      have e5 : bits .xor .u32 IntKind.u32.max (x : Int) = ((4294967295 - x : Nat) : Int) := bits_ones32 x hx
      go_wp2
      go_ret
      exact ⟨ret_int (by unfold crcOf; rw [HV.out, List.take_of_length_le (by simp), IntWalk.wrap64_in _ ⟨by omega, by omega⟩]), rfl⟩
set_option maxHeartbeats 400000 in
theorem checked_ok (s : ByteArray) (w : World) (hs : s.size ≤ 140737488351232) :
    Calls Try.prog 19 #[.string s] w fun e w' => e = .returned (.int .i64 (crcOf s.data.toList)) ∧ w' = w := by
  go_enter Try.func19, Try.ntmps19
  go_wp2
  go_loop [3, 7] (fun c i => ∃ (x : Nat) (k : Nat), k ≤ s.size ∧ x < 4294967296 ∧ i = .int .i64 k ∧ c = .int .u32 x ∧ x = crcL 4294967295 (s.data.toList.take k)) (fun _ i => s.size - (intOf i).toNat)
  case atStart => exact ⟨4294967295, 0, by omega, by omega, rfl, rfl, rfl⟩
  case round =>
    obtain ⟨x, k, hk, hx, rfl, rfl, hv⟩ := hrel
    have HV := Lib.hid hv; clear hv
    by_cases hlt : k < s.size
    · have e0 : ((s[k].toNat : Int) % 4294967296) = ((s[k].toNat : Nat) : Int) := by have := s[k].toNat_lt; omega
      have e1 : bits .xor .u32 (x : Int) ((s[k].toNat : Nat) : Int) = ((x ^^^ s[k].toNat : Nat) : Int) := u32_xor_nat _ _ hx (by have := s[k].toNat_lt; omega)
      have hy : x ^^^ s[k].toNat < 4294967296 := xor_lt32 hx (by have := s[k].toNat_lt; omega)
      go_wp2
      clear e0 e1
      have HY : Hid (crcB x s[k].toNat = crcL 4294967295 (s.data.toList.take (k + 1))) := by
        rw [take_snoc' s k hlt, crcL_snoc, ← HV.out]; exact Lib.hid rfl
      generalize hz : x ^^^ s[k].toNat = y at *
      have HZ := Lib.hid hz; clear hz HV
      go_loop [3, 16] (fun c i => ∃ (z : Nat) (j : Nat), j ≤ 8 ∧ z < 4294967296 ∧ i = .int .i64 j ∧ c = .int .u32 z ∧ z = crcN j y) (fun _ i => 8 - (intOf i).toNat)
      case atStart => exact ⟨y, 0, by omega, hy, rfl, rfl, rfl⟩
      case round =>
        obtain ⟨z, j, hj, hz, rfl, rfl, hv⟩ := hrel
        have HV := Lib.hid hv; clear hv
        by_cases hlj : j < 8
        · have e2 : bits .and .u32 (z : Int) 1 = ((z % 2 : Nat) : Int) := by rw [show (1 : Int) = ((1 : Nat) : Int) from rfl, u32_and_nat _ _ hz (by omega), nat_mask1]
          by_cases hodd : z % 2 = 1
          · have e3 : ((((z % 2 : Nat) : Int)) == 1) = true := by simp; omega
            have e4 : bits .xor .u32 ((z : Int) / 2) 3988292384 = ((crc1 z : Nat) : Int) := by
              unfold crc1; rw [if_pos hodd, show ((z : Int) / 2) = ((z / 2 : Nat) : Int) from by omega, show (3988292384 : Int) = ((3988292384 : Nat) : Int) from rfl, u32_xor_nat _ _ (by omega) (by omega)]
            have HO := Lib.hid hodd; clear hodd
            go_wp2
            go_round
            case rel => exact ⟨crc1 z, j + 1, by omega, crc1_lt hz, by go_num, rfl, by rw [HV.out]; rfl⟩
            case measure => simp [intOf]; omega
          · have e3 : ((((z % 2 : Nat) : Int)) == 1) = false := by simp; omega
            have e4 : ((z : Int) / 2) = ((crc1 z : Nat) : Int) := by unfold crc1; rw [if_neg hodd]; omega
            have HO := Lib.hid hodd; clear hodd
            go_wp2
            go_round
            case rel => exact ⟨crc1 z, j + 1, by omega, crc1_lt hz, by go_num, rfl, by rw [HV.out]; rfl⟩
            case measure => simp [intOf]; omega
        · obtain rfl : j = 8 := by omega
          go_wp2
          go_round
          case rel => exact ⟨z, k + 1, by omega, hz, by go_num, rfl, by rw [← HY.out, HV.out, ← HZ.out]; rfl⟩
          case measure => simp [intOf]; omega
    · obtain rfl : k = s.size := by omega
      have e5 : bits .xor .u32 IntKind.u32.max (x : Int) = ((4294967295 - x : Nat) : Int) := bits_ones32 x hx
      go_wp2
      go_ret
      exact ⟨ret_int (by unfold crcOf; rw [HV.out, List.take_of_length_le (by simp), IntWalk.wrap64_in _ ⟨by omega, by omega⟩]), rfl⟩
end Go.Proofs.Ytoffgcigmpjmbaa
