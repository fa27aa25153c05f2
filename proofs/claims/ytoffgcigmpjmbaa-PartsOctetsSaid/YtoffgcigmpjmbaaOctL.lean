import Derived.Test.YtoffgcigmpjmbaaOctT
namespace Go.Proofs.Ytoffgcigmpjmbaa
open Go.RowKit
set_option maxHeartbeats 2000000 in
set_option maxRecDepth 100000 in
theorem octets_walk (n : Int) (wd : Nat) (s ahead : ByteArray) (A : Option Addr) (c : Nat) (ws : List Int) (tn : Nat) (w : World)
    (hs : s.size ≤ 9223372036854775807) (ha : ahead.size ≤ 9223372036854775807) (hwd : wd < 256) (htn : tn < 65536) (hl : ws.length ≤ 9223372036854775807) (hc : ws.length ≤ c)
    (hw : Rd w (Value.int .i32) A ws) (hwr : ∀ x ∈ ws, -2147483648 ≤ x ∧ x ≤ 2147483647) (hn1 : n ≤ 9223372036854775807) (hn2 : -9223372036854775808 ≤ n) :
    Calls Try.prog 3 #[.int .i64 n, .int .u8 wd, .string s, .string ahead, .slice A ws.length c, .int .u16 tn] w fun e w' => e = .returned (.bool true) ∧ Below w.heap.size w w' := by
  obtain ⟨k, hk⟩ : ∃ k : Nat, k = wd % 10 := ⟨_, rfl⟩
  have hk9 : k ≤ 9 := by omega
  have hke : ((wd : Int) % 10) = (k : Int) := by omega
  obtain ⟨N, hN⟩ : ∃ N : Nat, N = n.toNat := ⟨_, rfl⟩
  obtain ⟨M, hM⟩ : ∃ M : Nat, M = min k 8 := ⟨_, rfl⟩
  obtain ⟨B, hB⟩ : ∃ B, bs (leB N M) = B := ⟨_, rfl⟩
  have hNe : (if n < 0 then 0 else n) = (N : Int) := by split <;> omega
  have hMe : (if 8 < (k : Int) then 8 else (k : Int)) = (M : Int) := by split <;> omega
  have hNb : (N : Int) ≤ 9223372036854775807 := by omega
  have hBp : bs (leB n.toNat (min k 8)) = B := by rw [← hB, hN, hM]
  have hBs : B.size = M := by rw [← hB]; simp
  have HB := Lib.hid hB
  have HBp := Lib.hid hBp
  have HBs := Lib.hid hBs
  have HN := Lib.hid hN
  have HM := Lib.hid hM
  have HW := Lib.hid hw
  have HWR := Lib.hid hwr
  clear hB hBp hBs hk hN hM hw hwr
  obtain ⟨p, hp⟩ : ∃ p : Nat, p = min s.size 80 := ⟨_, rfl⟩
  obtain ⟨q, hq⟩ : ∃ q : Nat, q = min ahead.size 80 := ⟨_, rfl⟩
  obtain ⟨m, hm⟩ : ∃ m : Nat, m = min ws.length 20 := ⟨_, rfl⟩
  have e1 : (if (80 : Int) < (s.size : Int) then 80 else (s.size : Int)) = (p : Int) := by split <;> omega
  have e2 : (if (80 : Int) < (ahead.size : Int) then 80 else (ahead.size : Int)) = (q : Int) := by split <;> omega
  have e3 : (if (20 : Int) < (ws.length : Int) then 20 else (ws.length : Int)) = (m : Int) := by split <;> omega
  have p1 : p ≤ s.size := by omega
  have q1 : q ≤ ahead.size := by omega
  have m1 : m ≤ ws.length := by omega
  have m2 : m ≤ c := by omega
  have p2 : (p : Int) ≤ (s.size : Int) := by omega
  have q2 : (q : Int) ≤ (ahead.size : Int) := by omega
  have m3 : (m : Int) ≤ (ws.length : Int) := by omega
  have m4 : (m : Int) ≤ (c : Int) := by omega
  have z1 : (0 : Int) ≤ (p : Int) := by omega
  have z2 : (0 : Int) ≤ (q : Int) := by omega
  have z3 : (0 : Int) ≤ (m : Int) := by omega
  have hs80 : (s.extract 0 p).size ≤ 80 := by simp; omega
  have ha80 : (ahead.extract 0 q).size ≤ 80 := by simp; omega
  have hm20 : m ≤ 20 := by omega
  clear hp hq hm
  go_enter Try.func3, Try.ntmps3
  go_upto_region 1 with fail
  go_quiet (fail)
  generalize s.extract 0 p = s' at *
  generalize ahead.extract 0 q = a' at *
  have hB8 : B.size ≤ 8 := by have := HBs.out; have := HM.out; omega
  clear e1 e2 e3 p1 q1 p2 q2 z1 z2 hs ha
  go_wp2_with fail
  refine (little_is N M B _ hNb (by have := HM.out; omega) HB.out).mono ?_
  rintro e w1 ⟨rfl, hb1⟩
  go_wp2_with fail
  refine (put_is n k B _ hn1 hn2 (by omega) HBp.out).mono ?_
  rintro e w2 ⟨rfl, hb2⟩
  clear hke hMe
  go_wp2_with fail
  by_cases hk17 : 1 ≤ k ∧ k ≤ 7
  · obtain ⟨X, hX⟩ : ∃ X : Nat, X = N % 256 ^ k := ⟨_, rfl⟩
    have hkM : M = k := by have := HM.out; omega
    have hsub : deB (sub (a' ++ B ++ ⟨#[122]⟩) a'.size k) = X := by
      rw [← hkM, ← HBs.out, sub_mid, ← HB.out, bs_toList, deB_leB, hX, hkM]
    have eX := mask_ok N k X (by omega) hk17.1 hk17.2 hX
    have hc1 := get_ok (a' ++ B ++ ⟨#[122]⟩) a'.size k w2 (by simp only [ByteArray.size_append, z_size]; omega) hk17.1 hk17.2 (by have := HBs.out; simp only [ByteArray.size_append, z_size]; omega)
    (with_reducible refine hc1.mono ?_)
    clear hc1
    rintro e w3 ⟨rfl, rfl⟩
    rw [hsub]
    have HX := Lib.hid hX
    have HSB := Lib.hid hsub
    clear hX hsub
    go_wp2_with fail
    clear eX hNe
    have hc1 := get_short B 1 k w3 (by omega) hk17.1 hk17.2 (by have := HBs.out; omega) (by have := HBs.out; omega)
    refine hc1.mono ?_
    clear hc1
    rintro e w4 ⟨rfl, rfl⟩
    have hbE : Below w.heap.size w w4 := bl_step (bl_step (bl_drewN w nq) hb1) hb2
    go_upto_if 128 with fail
    go_step
    go_step
    go_step
    go_step
    refine octets_tail w _ s' a' A m c tn ws hs80 ha80 hm20 m1 m2 htn HW.out HWR.out hbE _ _ _ _ _ _ _ _ _ _ _ _ _ _ _ _ _ _ _ _ _ _ _ _ _ _ _ _ _ _ _ _ _ _ _ _ _ _ _ _ _ _ _ _ _ _ _ _ _ _ _ _ _ _ _ _ _ _ _ _ _ _ _ _ _ _ _ _ _ _ _ _ _ _ _ _ _ _ _ _ _ _ _ _ _ _ _ _ _ _ _ _ _ _ _ _ _ _ _ _ _ _ _ _ _ _ _ _ _ _ _ _ _ _ _ _ _ _ _ _ _ _ _ _ _ _ _ _ _ _ _ _ _ _ _ _ _ _ _ _ _ _ _ _ _ _ _ _ _ _ _ _ _ _ _ _ _ _ _ _ _ _ _ _ _ _ _ _ _ _ _ _ _ _ _ _ _ _ _ _ _ _ _ _ _ _ _ _ _ _ _ _ _ _ _ _ _ _ _ _ _ _ _ _ _ _ _ _ _ _ _ _ _ _ _ _ _ _ _ _ _ _ _ _ _ _ _ _ _ _ _ _ _ _ _ _ _ _ _ _ _ _ _ _ _ _ _ _ _ _ _ _ _ _ _ _ _ _ _ _ _ _ _ _ _ _ _ _ _ _ _ _ _ _ _ _ _ _ _ _ _ _ _ _ _ _ _ _ _ _ _ _ _ _ _ _ _ _ _ _ _ _ _ _ _ _ _ _ _ _ _ _
  · have hbad : (k : Int) < 1 ∨ 7 < (k : Int) ∨ (a'.size : Int) < 0 ∨ ((a' ++ B ++ (⟨#[122]⟩ : ByteArray)).size : Int) < a'.size := by omega
    have hc1 := get_bad (a' ++ B ++ (⟨#[122]⟩ : ByteArray)) a'.size k w2 hbad
    (with_reducible refine hc1.mono ?_)
    clear hc1
    rintro e w3 ⟨rfl, rfl⟩
    have hbE : Below w.heap.size w w3 := bl_step (bl_step (bl_drewN w nq) hb1) hb2
    clear hNe hbad
    rcases (show k < 1 ∨ 7 < k by omega) with hlo | hhi
    · have d1 : decide ((k : Int) < 1) = true := by simp; omega
      have hlo' : (k : Int) < 1 := by omega
      go_wp2_with fail
      have hc1 := get_bad B 1 1 w3 (by have := HBs.out; have := HM.out; omega)
      (with_reducible refine hc1.mono ?_)
      clear hc1
      rintro e w4 ⟨rfl, rfl⟩
      go_upto_if 128 with fail
      go_step
      go_step
      go_step
      go_step
      refine octets_tail w _ s' a' A m c tn ws hs80 ha80 hm20 m1 m2 htn HW.out HWR.out hbE _ _ _ _ _ _ _ _ _ _ _ _ _ _ _ _ _ _ _ _ _ _ _ _ _ _ _ _ _ _ _ _ _ _ _ _ _ _ _ _ _ _ _ _ _ _ _ _ _ _ _ _ _ _ _ _ _ _ _ _ _ _ _ _ _ _ _ _ _ _ _ _ _ _ _ _ _ _ _ _ _ _ _ _ _ _ _ _ _ _ _ _ _ _ _ _ _ _ _ _ _ _ _ _ _ _ _ _ _ _ _ _ _ _ _ _ _ _ _ _ _ _ _ _ _ _ _ _ _ _ _ _ _ _ _ _ _ _ _ _ _ _ _ _ _ _ _ _ _ _ _ _ _ _ _ _ _ _ _ _ _ _ _ _ _ _ _ _ _ _ _ _ _ _ _ _ _ _ _ _ _ _ _ _ _ _ _ _ _ _ _ _ _ _ _ _ _ _ _ _ _ _ _ _ _ _ _ _ _ _ _ _ _ _ _ _ _ _ _ _ _ _ _ _ _ _ _ _ _ _ _ _ _ _ _ _ _ _ _ _ _ _ _ _ _ _ _ _ _ _ _ _ _ _ _ _ _ _ _ _ _ _ _ _ _ _ _ _ _ _ _ _ _ _ _ _ _ _ _ _ _ _ _ _ _ _ _ _ _ _ _ _ _ _ _ _ _ _ _ _ _ _ _ _ _ _ _ _ _ _ _ _
    · have hhi' : 7 < (k : Int) := by omega
      go_wp2_with fail
      have hc1 := get_bad B 1 k w3 (by omega)
      (with_reducible refine hc1.mono ?_)
      clear hc1
      rintro e w4 ⟨rfl, rfl⟩
      go_upto_if 128 with fail
      go_step
      go_step
      go_step
      go_step
      refine octets_tail w _ s' a' A m c tn ws hs80 ha80 hm20 m1 m2 htn HW.out HWR.out hbE _ _ _ _ _ _ _ _ _ _ _ _ _ _ _ _ _ _ _ _ _ _ _ _ _ _ _ _ _ _ _ _ _ _ _ _ _ _ _ _ _ _ _ _ _ _ _ _ _ _ _ _ _ _ _ _ _ _ _ _ _ _ _ _ _ _ _ _ _ _ _ _ _ _ _ _ _ _ _ _ _ _ _ _ _ _ _ _ _ _ _ _ _ _ _ _ _ _ _ _ _ _ _ _ _ _ _ _ _ _ _ _ _ _ _ _ _ _ _ _ _ _ _ _ _ _ _ _ _ _ _ _ _ _ _ _ _ _ _ _ _ _ _ _ _ _ _ _ _ _ _ _ _ _ _ _ _ _ _ _ _ _ _ _ _ _ _ _ _ _ _ _ _ _ _ _ _ _ _ _ _ _ _ _ _ _ _ _ _ _ _ _ _ _ _ _ _ _ _ _ _ _ _ _ _ _ _ _ _ _ _ _ _ _ _ _ _ _ _ _ _ _ _ _ _ _ _ _ _ _ _ _ _ _ _ _ _ _ _ _ _ _ _ _ _ _ _ _ _ _ _ _ _ _ _ _ _ _ _ _ _ _ _ _ _ _ _ _ _ _ _ _ _ _ _ _ _ _ _ _ _ _ _ _ _ _ _ _ _ _ _ _ _ _ _ _ _ _ _ _ _ _ _ _ _ _ _ _ _ _ _ _
end Go.Proofs.Ytoffgcigmpjmbaa
