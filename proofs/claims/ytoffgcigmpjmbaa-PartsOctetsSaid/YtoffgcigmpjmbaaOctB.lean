import Derived.Test.YtoffgcigmpjmbaaOctA
namespace Go.Proofs.Ytoffgcigmpjmbaa
open Go.RowKit
set_option maxHeartbeats 400000 in
set_option maxRecDepth 10000 in
theorem get_bad (s : ByteArray) (a k : Int) (w : World) (h : k < 1 ∨ 7 < k ∨ a < 0 ∨ (s.size : Int) < a) :
    Calls Try.prog 12 #[.string s, .int .i64 a, .int .i64 k] w fun e w' => e = .returned (.tuple #[.int .i64 0, .int .i64 0, .int .i64 1]) ∧ w' = w := by
  by_cases h1 : k < 1
  · go_enter Try.func12, Try.ntmps12
    go_wp2
    go_ret3
    exact ⟨rfl, rfl⟩
  · by_cases h2 : 7 < k
    · go_enter Try.func12, Try.ntmps12
      go_wp2
      go_ret3
      exact ⟨rfl, rfl⟩
    · by_cases h3 : a < 0
      · go_enter Try.func12, Try.ntmps12
        go_wp2
        go_ret3
        exact ⟨rfl, rfl⟩
      · have h4 : (s.size : Int) < a := by omega
        go_enter Try.func12, Try.ntmps12
        go_wp2
        go_ret3
        exact ⟨rfl, rfl⟩
set_option maxHeartbeats 400000 in
set_option maxRecDepth 10000 in
theorem get_short (s : ByteArray) (a k : Nat) (w : World) (_hs : s.size ≤ 140737488351232) (h1 : 1 ≤ k) (h2 : k ≤ 7) (h3 : a ≤ s.size) (h4 : s.size < a + k) :
    Calls Try.prog 12 #[.string s, .int .i64 a, .int .i64 k] w fun e w' => e = .returned (.tuple #[.int .i64 0, .int .i64 0, .int .i64 8]) ∧ w' = w := by
  go_enter Try.func12, Try.ntmps12
  go_wp2
  go_ret3
  exact ⟨rfl, rfl⟩
set_option maxHeartbeats 400000 in
set_option maxRecDepth 10000 in
theorem get_ok (s : ByteArray) (a k : Nat) (w : World) (hs : s.size ≤ 140737488351232) (h1 : 1 ≤ k) (h2 : k ≤ 7) (h4 : a + k ≤ s.size) :
    Calls Try.prog 12 #[.string s, .int .i64 a, .int .i64 k] w fun e w' => e = .returned (.tuple #[.int .i64 (deB (sub s a k)), .int .i64 (a + k : Nat), .int .i64 0]) ∧ w' = w := by
  have d1 : decide ((k : Int) < 1) = false := by simp; omega
  have d2 : decide (7 < (k : Int)) = false := by simp; omega
  have d3 : decide ((a : Int) < 0) = false := by simp
  have d4 : decide (s.size < a) = false := by simp; omega
  have d5 : decide ((s.size : Int) - a < k) = false := by simp; omega
  go_enter Try.func12, Try.ntmps12
  go_wp2
  clear d1 d2 d3 d4 d5
  go_loop [9, 10] (fun v9 v10 => ∃ j n : Nat, j ≤ k ∧ v9 = .int .i64 n ∧ v10 = .int .i64 ((j : Int) - 1) ∧ n < 72057594037927936 ∧ Hid (n = deB (sub s (a + j) (k - j)))) (fun _ v10 => (intOf v10 + 1).toNat)
  case atStart => exact ⟨k, 0, by omega, rfl, rfl, by omega, by simp [Hid, sub, deB]⟩
  case round =>
    obtain ⟨j, n, hj, rfl, rfl, hn, HN⟩ := hrel
    by_cases hlt : 0 < j
    · have hix : a + (j - 1) < s.size := by omega
      have hn' : n < 36028797018963968 := by
        have := sub_deB_lt s (a + j) (k - j) 6 (by omega) (by omega)
        rw [← HN.out] at this
        exact Nat.lt_trans this (by decide)
      have hbt := s[a + (j - 1)].toNat_lt
      have e1 : wrap64 ((s[a + (j - 1)].toNat : Nat) : Int) = ((s[a + (j - 1)].toNat : Nat) : Int) := IntWalk.wrap64_in _ ⟨by omega, by omega⟩
      have e2 := i64_or_byte n s[a + (j - 1)].toNat hn' hbt
      go_wp2
      go_round
      case rel =>
        have e3 : n * 256 + s[a + (j - 1)].toNat = deB (sub s (a + (j - 1)) (k - (j - 1))) := by
          rw [show k - (j - 1) = (k - j) + 1 from by omega, sub_cons s _ _ hix, show a + (j - 1) + 1 = a + j from by omega, deB, ← HN.out]
          omega
        refine ⟨j - 1, n * 256 + s[a + (j - 1)].toNat, by omega, by go_num, by congr 1; omega, ?_, e3⟩
        have := sub_deB_lt s (a + (j - 1)) (k - (j - 1)) 7 (by omega) (by omega)
        rw [← e3] at this
        exact Nat.lt_of_lt_of_le this (by decide)
      case measure => simp [intOf]; omega
    · go_wp2
      go_ret3
      obtain rfl : j = 0 := by omega
      exact ⟨by rw [HN.out]; rfl, rfl⟩
end Go.Proofs.Ytoffgcigmpjmbaa
