import Derived.Test.YtoffgcigmpjmbaaOctD
namespace Go.Proofs.Ytoffgcigmpjmbaa
open Go.RowKit
theorem crc_ok (s : ByteArray) (w : World) (hs : s.size ≤ 140737488351232) :
    Calls Try.prog 21 #[.string s] w fun e w' => e = .returned (.int .i64 (crcOf s.data.toList)) ∧ Below w.heap.size w w' := by
  go_enter Try.func21, Try.ntmps21
  go_wp2_with (go_at_call 104; refine (sum_ok _ _ s _ (by rw [World.cell?_alloc_new]; rfl) rfl hs).mono ?_; rintro e w' ⟨rfl, rfl⟩)
  go_ret
  exact ⟨rfl, bl_alloc (Below.refl _ _) _⟩
theorem crcOf_lt (l : List UInt8) : crcOf l < 4294967296 := by unfold crcOf; omega
set_option maxHeartbeats 400000 in
set_option maxRecDepth 10000 in
theorem seal_ok (s : ByteArray) (w : World) (hs : s.size ≤ 1000) :
    Calls Try.prog 22 #[.string s] w fun e w' => e = .returned (.string (bs (s.data.toList ++ leB (crcOf s.data.toList) 4))) ∧ Below w.heap.size w w' := by
  have hlt := crcOf_lt s.data.toList
  go_enter Try.func22, Try.ntmps22
  go_wp2_with fail
  refine (sum_ok _ _ s _ (by rw [World.cell?_alloc_new]; rfl) rfl (by omega)).mono ?_
  rintro e w' ⟨rfl, rfl⟩
  go_wp2_with fail
  refine (put_ok (crcOf s.data.toList) 4 _ (by omega) (by omega) (by omega)).mono ?_
  rintro e w1 ⟨rfl, hb1⟩
  rw [Int.toNat_natCast]
  go_wp2_with fail
  refine (joined_ok w1.heap.size 0 2 [s, bs (leB (crcOf s.data.toList) 4)] _ (by simp) (by simp [cat]; omega) (fun j h => ?_)).mono ?_
  · have : j = 0 ∨ j = 1 := by simp at h; omega
    rcases this with rfl | rfl <;> (rw [World.cell?_alloc_new]; rfl)
  rintro e w2 ⟨rfl, hb2⟩
  go_wp2
  go_ret
  exact ⟨ret_str (by simp [cat]), bl_step (bl_alloc (bl_step (bl_alloc (Below.refl _ _) _) hb1) _) hb2⟩
theorem open_short (s : ByteArray) (w : World) (hs : s.size < 4) :
    Calls Try.prog 20 #[.string s] w fun e w' => e = .returned (.tuple #[.string ⟨#[]⟩, .int .i64 8]) ∧ w' = w := by
  go_enter Try.func20, Try.ntmps20
  go_wp2
  go_ret2
  exact ⟨rfl, rfl⟩
theorem sum_is (a : Addr) (c : Nat) (s : ByteArray) (x : Nat) (w : World) (ha : w.cell? a = some (.string s)) (hsp : a.spot = none) (hs : s.size ≤ 140737488351232) (hx : crcOf s.data.toList = x) :
    Calls Try.prog 104 #[.slice (some a) 1 c] w fun e w' => e = .returned (.int .i64 x) ∧ w' = w := by
  subst hx; exact sum_ok a c s w ha hsp hs
theorem put4_is (x : Nat) (t : ByteArray) (w : World) (hx : x < 4294967296) (ht : bs (leB x 4) = t) :
    Calls Try.prog 11 #[.int .i64 x, .int .i64 4] w fun e w' => e = .returned (.string t) ∧ Below w.heap.size w w' := by
  subst ht
  exact put_ok x 4 w (by omega) (by omega) (by omega)
set_option maxHeartbeats 400000 in
set_option maxRecDepth 10000 in
theorem open_yes (s : ByteArray) (n : Nat) (w : World) (hs : s.size ≤ 1000) (hn : s.size = n + 4) (hq : s.data.toList.drop n = leB (crcOf (s.data.toList.take n)) 4) :
    Calls Try.prog 20 #[.string s] w fun e w' => e = .returned (.tuple #[.string (bs (s.data.toList.take n)), .int .i64 0]) ∧ Below w.heap.size w w' := by
  obtain ⟨x, hx⟩ : ∃ x, crcOf (s.data.toList.take n) = x := ⟨_, rfl⟩
  obtain ⟨t, ht⟩ : ∃ t, bs (leB x 4) = t := ⟨_, rfl⟩
  have hlt : x < 4294967296 := by rw [← hx]; exact crcOf_lt _
  have hx' : crcOf (s.extract 0 n).data.toList = x := by rw [Lib.extract_data]; simpa using hx
  have hb : ((s.extract n s.size).toList == t.toList) = true := by
    rw [Lib.toList_data, Lib.extract_to_end, ← ht, Lib.toList_data, bs_toList, ← hx]; simpa using hq
  have h1 : (s.size : Int) = n + 4 := by omega
  have H := Lib.hid hn
  have HX := Lib.hid hx'
  have HT := Lib.hid ht
  have HB := Lib.hid hb
  clear hn hq hx hx' ht hb
  go_enter Try.func20, Try.ntmps20
  go_wp2
  clear h1
  have hle : n ≤ s.size := by have := H.out; omega
  have hle1 : (n : Int) ≤ (s.size : Int) := by omega
  have hle0 : (0 : Int) ≤ (n : Int) := by omega
  go_region_held3 (fun _ => True) (trivial) (first | (go_at_call 104; refine (sum_is _ _ (s.extract 0 n) x _ (by simp) rfl (by have := H.out; simp; omega) HX.out).mono ?_; rintro e w1 ⟨rfl, rfl⟩) | (go_at_call 11; refine (put4_is x t _ hlt HT.out).mono ?_; rintro e w1 ⟨rfl, hb1⟩))
  have hfin : Below w.heap.size w w1 := bl_step (bl_alloc (Below.refl _ _) (Obj.cells #[Value.string (s.extract 0 n)] 9)).drew hb1
  clear hb1
  rw [HB.out]
  simp only [Bool.not_true]
  go_wp2
  go_ret2
  refine ⟨?_, hfin⟩
  rw [show bs (s.data.toList.take n) = s.extract 0 n from ba_ext (by rw [Lib.extract_data]; simp)]
  rfl
set_option maxHeartbeats 400000 in
set_option maxRecDepth 10000 in
theorem open_no (s : ByteArray) (n : Nat) (w : World) (hs : s.size ≤ 1000) (hn : s.size = n + 4) (hq : s.data.toList.drop n ≠ leB (crcOf (s.data.toList.take n)) 4) :
    Calls Try.prog 20 #[.string s] w fun e w' => e = .returned (.tuple #[.string ⟨#[]⟩, .int .i64 10]) ∧ Below w.heap.size w w' := by
  obtain ⟨x, hx⟩ : ∃ x, crcOf (s.data.toList.take n) = x := ⟨_, rfl⟩
  obtain ⟨t, ht⟩ : ∃ t, bs (leB x 4) = t := ⟨_, rfl⟩
  have hlt : x < 4294967296 := by rw [← hx]; exact crcOf_lt _
  have hx' : crcOf (s.extract 0 n).data.toList = x := by rw [Lib.extract_data]; simpa using hx
  have hb : ((s.extract n s.size).toList == t.toList) = false := by
    rw [Lib.toList_data, Lib.extract_to_end, ← ht, Lib.toList_data, bs_toList, ← hx]; simpa using hq
  have h1 : (s.size : Int) = n + 4 := by omega
  have H := Lib.hid hn
  have HX := Lib.hid hx'
  have HT := Lib.hid ht
  have HB := Lib.hid hb
  clear hn hq hx hx' ht hb
  go_enter Try.func20, Try.ntmps20
  go_wp2
  clear h1
  have hle : n ≤ s.size := by have := H.out; omega
  have hle1 : (n : Int) ≤ (s.size : Int) := by omega
  have hle0 : (0 : Int) ≤ (n : Int) := by omega
  go_region_held3 (fun _ => True) (trivial) (first | (go_at_call 104; refine (sum_is _ _ (s.extract 0 n) x _ (by simp) rfl (by have := H.out; simp; omega) HX.out).mono ?_; rintro e w1 ⟨rfl, rfl⟩) | (go_at_call 11; refine (put4_is x t _ hlt HT.out).mono ?_; rintro e w1 ⟨rfl, hb1⟩))
  have hfin : Below w.heap.size w w1 := bl_step (bl_alloc (Below.refl _ _) (Obj.cells #[Value.string (s.extract 0 n)] 9)).drew hb1
  clear hb1
  rw [HB.out]
  simp only [Bool.not_false]
  go_wp2
  go_ret2
  exact ⟨rfl, hfin⟩
def wordAt (s : ByteArray) (i : Nat) : Int := ((s.data.toList.getD (2 * i) 0).toNat + 256 * (s.data.toList.getD (2 * i + 1) 0).toNat : Nat)
theorem getwords_odd (s : ByteArray) (w : World) (hs : s.size % 2 = 1) :
    Calls Try.prog 16 #[.string s] w fun e w' => e = .returned (.tuple #[.slice none 0 0, .int .i64 9]) ∧ w' = w := by
  have hb : (((s.size : Int) % 2) == 1) = true := by simp; omega
  go_enter Try.func16, Try.ntmps16
  go_wp2
  go_ret2
  exact ⟨rfl, rfl⟩
set_option maxHeartbeats 400000 in
set_option maxRecDepth 10000 in
theorem getwords_ok (s : ByteArray) (n : Nat) (w : World) (hs : s.size = 2 * n) (hn : n ≤ 1000) :
    Calls Try.prog 16 #[.string s] w fun e w' => ∃ v, e = .returned (.tuple #[v, .int .i64 0]) ∧ w'.ownsRow w.heap.size 3 1 v n (((List.range n).map (wordAt s)).map (Value.int .i64)) ∧ Below w.heap.size w w' := by
  obtain ⟨i0, hi, hz0, hz1, hz2⟩ := info_parts info3
  have hb : (((s.size : Int) % 2) == 1) = false := by simp; omega
  have hd : ((s.size : Int) / 2) = (n : Int) := by omega
  have hl : 2 * n ≤ s.size := by omega
  have H := Lib.hid hs
  clear hs
  go_enter Try.func16, Try.ntmps16
  go_wp2_with (refine wpList_make_full _ rfl (.tmp 12) (.tmp 12) 31 rfl w.heap.size 3 i0 (.int .i64 0) 1 Try.underlying31 hi hz0 hz1 .i64 .i64 _ _ n rfl rfl (by omega) (by omega) (by rw [hz2]; omega) (by unfold maxLen; omega) (Nat.le_refl _) ?_; intro w1 hown hgr)
  have hb1 := (Below.refl w.heap.size w).grown hgr (Nat.le_refl _) (by simp)
  rw [show (Value.int IntKind.i64 0).cells = #[Value.int IntKind.i64 0] from rfl, toList_madeCells_one, Nat.mul_one] at hown
  clear hgr hb hd hi hz0 hz1 hz2
  go_loopw [16] (fun v16 wr => ∃ j : Nat, j ≤ n ∧ v16 = .int .i64 j ∧ Hid (wr.ownsRow w.heap.size 3 1 (.slice (some ⟨w.heap.size, 0, none⟩) n n) n (((List.range j).map (wordAt s)).map (Value.int .i64) ++ List.replicate (n - j) (.int .i64 0))) ∧ Below w.heap.size w wr) (fun v16 _ => n - (intOf v16).toNat)
  case atStart => exact ⟨0, by omega, rfl, by simpa [Hid] using hown, hb1⟩
  case round =>
    clear hown
    obtain ⟨j, hj, rfl, hown, hb⟩ := hrel
    by_cases hlt : j < n
    · have hc := World.ownsRow.cellAt hown.out j (by omega)
      have hf := World.ownsRow.frozenAt hown.out j
      rw [List.getElem?_append_right (by simp)] at hc
      simp only [List.length_map, List.length_range, Nat.sub_self] at hc
      rw [List.getElem?_replicate_of_lt (by omega)] at hc
      have h0 : 2 * j < s.size := by omega
      have h1 : 2 * j + 1 < s.size := by omega
      have b0 := s[2 * j].toNat_lt
      have b1 := s[2 * j + 1].toNat_lt
      have e0 : IntKind.i64.wrap ((s[2 * j].toNat : Nat) : Int) = ((s[2 * j].toNat : Nat) : Int) := IntWalk.i64_in _ (by omega)
      have e1 : IntKind.i64.wrap ((s[2 * j + 1].toNat : Nat) : Int) = ((s[2 * j + 1].toNat : Nat) : Int) := IntWalk.i64_in _ (by omega)
      have e2 : IntKind.i64.wrap (((s[2 * j + 1].toNat : Nat) : Int) * 256) = ((s[2 * j + 1].toNat : Nat) : Int) * 256 := IntWalk.i64_in _ (by omega)
      have e3 : bits .or .i64 ((s[2 * j].toNat : Nat) : Int) (((s[2 * j + 1].toNat : Nat) : Int) * 256) = wordAt s j := by
        rw [show (((s[2 * j + 1].toNat : Nat) : Int) * 256) = ((s[2 * j + 1].toNat * 256 : Nat) : Int) from by omega, i64_or_nat _ _ (by omega) (by omega), Nat.or_comm, or_byte _ _ b0]
        unfold wordAt
        simp only [List.getD, List.getElem?_eq_getElem (show 2 * j < s.data.toList.length from h0), List.getElem?_eq_getElem (show 2 * j + 1 < s.data.toList.length from h1), Option.getD_some]
        show ((s[2 * j + 1].toNat * 256 + s[2 * j].toNat : Nat) : Int) = ((s[2 * j].toNat + 256 * s[2 * j + 1].toNat : Nat) : Int)
        omega
      go_wp2
      have w0 : IntKind.i64.wrap (2 * (j : Int)) = 2 * (j : Int) := IntWalk.i64_in _ (by omega)
      have w1 : IntKind.i64.wrap (2 * (j : Int) + 1) = 2 * (j : Int) + 1 := IntWalk.i64_in _ (by omega)
      have t0 : (2 * (j : Int)).toNat = 2 * j := by omega
      have t1 : (2 * (j : Int) + 1).toNat = 2 * j + 1 := by omega
      have r0 : 0 ≤ 2 * (j : Int) ∧ 2 * (j : Int) < (s.size : Int) := by omega
      have r1 : 0 ≤ 2 * (j : Int) + 1 ∧ 2 * (j : Int) + 1 < (s.size : Int) := by omega
      go_still_tail 16, (by kernel_rfl)
      clear w0 w1 e0 e1 e2 e3
      go_wp2
      have hst := (World.ownsRow.stored hown.out j (Value.int .i64 (wordAt s j))).1
      refine ⟨⟨j + 1, by omega, by go_num, ?_, (bl_set hb (Nat.le_refl _) _).drew⟩, by simp [intOf]; omega⟩
      rw [set_mid _ n j _ _ (by simp) (by omega)] at hst
      show World.ownsRow _ _ _ _ _ _ _
      rw [List.range_succ, List.map_append, List.map_append]
      exact hst
    · obtain rfl : j = n := by omega
      go_wp2
      go_ret2
      exact ⟨_, rfl, by simpa using hown.out, hb⟩
end Go.Proofs.Ytoffgcigmpjmbaa
