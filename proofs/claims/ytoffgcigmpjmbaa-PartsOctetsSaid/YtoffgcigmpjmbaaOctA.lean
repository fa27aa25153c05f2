import Derived.Test.YtoffgcigmpjmbaaRows
import Derived.Test.YtoffgcigmpjmbaaKit
import Derived.Test.YtoffgcigmpjmbaaOctP
import Derived.Laws.BytesArg
namespace Go.Proofs.Ytoffgcigmpjmbaa
open Go.RowKit
theorem cv_one (w : World) (x : Int) : (convert 40 9 (.slice (some ⟨w.heap.size, 0, none⟩) 1 1)).run Try.prog (w.alloc (.cells #[.int .u8 x] 5)) = .ok (.string (bs [UInt8.ofNat x.toNat])) (w.alloc (.cells #[.int .u8 x] 5)) :=
  run_convert_bytes_arg (P := Try.prog) (w.alloc (.cells #[.int .u8 x] 5)) 40 5 Try.underlying40 Try.underlying5 w.heap.size 0 1 1 [x] rfl (fun i hi => by
    obtain rfl : i = 0 := by omega
    rw [World.cell?_alloc_new]; rfl) 9 Try.underlying9
set_option maxHeartbeats 400000 in
set_option maxRecDepth 10000 in
theorem little_ok (n k : Nat) (w : World) (_hn : (n : Int) ≤ 9223372036854775807) (hk : k ≤ 1000) :
    Calls Try.prog 10 #[.int .i64 n, .int .i64 k] w fun e w' => e = .returned (.string (bs (leB n k))) ∧ Below w.heap.size w w' := by
  go_enter Try.func10, Try.ntmps10
  go_wp2
  go_loopw [0, 5, 7] (fun v0 v5 v7 wr => ∃ j q : Nat, ∃ l : List UInt8, j ≤ k ∧ v0 = .int .i64 (q : Int) ∧ v5 = .string (bs l) ∧ v7 = .int .i64 j ∧ Hid (q = n / 256 ^ j) ∧ q ≤ n ∧ Hid (l = leB n j) ∧ l.length ≤ 1000 ∧ Below w.heap.size w wr) (fun _ _ v7 _ => k - (intOf v7).toNat)
  case atStart => exact ⟨0, n, [], by omega, rfl, rfl, rfl, by simp [Hid], Nat.le_refl _, rfl, by simp, Below.refl _ _⟩
  case round =>
    obtain ⟨j, q, l, hj, rfl, rfl, rfl, HQ, hq, HL, hl, hb⟩ := hrel
    by_cases hlt : j < k
    · have hcv := cv_one wr ((q : Int) % 256)
      have e1 : UInt8.ofNat ((q : Int) % 256).toNat = UInt8.ofNat (q % 256) := by congr 1
      rw [e1] at hcv
      clear e1
      go_wp2
      refine ⟨⟨j + 1, q / 256, l ++ [UInt8.ofNat (q % 256)], by omega, by go_num, by rw [bs_append], by go_num, ?_, ?_, ?_, by simp; have := congrArg List.length HL.out; simp at this; omega, bl_alloc hb _⟩, by simp [intOf]; omega⟩
      · show q / 256 = n / 256 ^ (j + 1)
        rw [HQ.out, Nat.div_div_eq_div_mul, Nat.pow_succ]
      · have := Nat.div_le_self q 256; omega
      · show l ++ _ = leB n (j + 1)
        rw [HL.out, HQ.out]; rfl
    · go_wp2
      go_ret
      exact ⟨ret_str (by rw [HL.out, show j = k from by omega]), hb⟩
theorem cv_bytes {w : World} {base g n cap : Nat} {l : List UInt8} (h : w.ownsRow base 5 1 (.slice (some ⟨g, 0, none⟩) n cap) n (l.map encB)) :
    (convert 40 9 (.slice (some ⟨g, 0, none⟩) n cap)).run Try.prog w = .ok (.string (bs l)) w := by
  have hl : l.length = n := by have := h.1; simpa using this
  have hs : strOfNums (l.map fun b => (b.toNat : Int)) = bs l := by
    unfold strOfNums bs; congr 1; rw [List.map_map]; congr 1
    conv => rhs; rw [← List.map_id l]
    exact List.map_congr_left fun b _ => by simp
  have := run_convert_bytes_arg (P := Try.prog) w 40 5 Try.underlying40 Try.underlying5 g 0 n cap (l.map fun b => (b.toNat : Int)) (by simpa using hl) (fun i hi => by
    rw [Nat.zero_add, World.ownsRow.cellAt h i (by omega)]
    rw [List.getElem?_map, List.getElem?_eq_getElem (by omega)]
    simp [encB, List.getD, List.getElem?_eq_getElem (show i < l.length by omega)]) 9 Try.underlying9
  rw [hs] at this
  exact this
theorem cv_bytes_any {w : World} {base n : Nat} {v : Value} {l : List UInt8} (h : w.ownsRow base 5 1 v n (l.map encB)) :
    (convert 40 9 v).run Try.prog w = .ok (.string (bs l)) w := by
  rcases h.2 with ⟨rfl, hn⟩ | ⟨g, cap, cur, rfl, _⟩
  · have hl : l = [] := by have := h.1; subst hn; simpa using this
    subst hl
    exact run_convert_bytes_nil (P := Try.prog) w 40 5 Try.underlying40 Try.underlying5 0 0 9 Try.underlying9
  · exact cv_bytes h
theorem info5 : (Try.prog.info? 5).map (fun i => (i.zero, i.size, i.bytes)) = some (some (.int .u8 0), 1, 1) := by kernel_rfl
theorem info3 : (Try.prog.info? 3).map (fun i => (i.zero, i.size, i.bytes)) = some (some (.int .i64 0), 1, 8) := by kernel_rfl
set_option maxHeartbeats 400000 in
set_option maxRecDepth 10000 in
theorem put_ok (n : Int) (k : Nat) (w : World) (_hn : n ≤ 9223372036854775807) (_hn2 : -9223372036854775808 ≤ n) (hk : k ≤ 1000) :
    Calls Try.prog 11 #[.int .i64 n, .int .i64 k] w fun e w' => e = .returned (.string (bs (leB n.toNat (min k 8)))) ∧ Below w.heap.size w w' := by
  obtain ⟨i0, hi, hz0, hz1, hz2⟩ := info_parts info5
  obtain ⟨m, hm⟩ : ∃ m, m = min k 8 := ⟨_, rfl⟩
  have HM := Lib.hid hm
  have hm1 : m ≤ k := by omega
  have hm2 : m ≤ 8 := by omega
  have hm3 : k ≤ 8 → k ≤ m := by omega
  have hm4 : 8 < k → 8 ≤ m := by omega
  clear hm
  go_enter Try.func11, Try.ntmps11
  go_wp2_with (refine wpList_make_full _ rfl (.tmp 9) (.tmp 9) 40 rfl w.heap.size 5 i0 (.int .u8 0) 1 Try.underlying40 hi hz0 hz1 .i64 .i64 _ _ m rfl rfl (by omega) (by omega) (by rw [hz2]; omega) (by unfold maxLen; omega) (Nat.le_refl _) ?_; intro w1 hown hgr)
  all_goals
    clear hi hz0 hz1 hz2
    have hb1 := (Below.refl w.heap.size w).grown hgr (Nat.le_refl _) (by simp)
    rw [show (Value.int IntKind.u8 0).cells = #[Value.int IntKind.u8 0] from rfl, toList_madeCells_one, Nat.mul_one] at hown
    clear hgr
    go_loopw [13] (fun v13 wr => ∃ j : Nat, j ≤ m ∧ v13 = .int .i64 j ∧ Hid (wr.ownsRow w.heap.size 5 1 (.slice (some ⟨w.heap.size, 0, none⟩) m m) m ((leB n.toNat j).map (encB) ++ List.replicate (m - j) (.int .u8 0))) ∧ Below w.heap.size w wr) (fun v13 _ => m - (intOf v13).toNat)
    case atStart => exact ⟨0, by omega, rfl, by simpa [Hid, leB] using hown, hb1⟩
    case round =>
      clear hown
      obtain ⟨j, hj, rfl, hown, hb⟩ := hrel
      by_cases hlt : j < m
      · have hc := World.ownsRow.cellAt hown.out j (by omega)
        have hf := World.ownsRow.frozenAt hown.out j
        rw [List.getElem?_append_right (by simp)] at hc
        simp only [List.length_map, leB_length, Nat.sub_self] at hc
        rw [List.getElem?_replicate_of_lt (by omega)] at hc
        go_wp2
        all_goals
          have hst := (World.ownsRow.stored hown.out j (Value.int .u8 ((if n < 0 then 0 else n) / 2 ^ (8 * j) % 256))).1
          refine ⟨⟨j + 1, by omega, by go_num, ?_, bl_set hb (Nat.le_refl _) _⟩, by simp [intOf]; omega⟩
          rw [set_mid _ m j _ _ (by simp) (by omega), put_byte] at hst
          show World.ownsRow _ _ _ _ _ _ _
          rw [leB, List.map_append, put_byte]
          exact hst
      · obtain rfl : j = m := by omega
        have hcv := cv_bytes (l := leB n.toNat j) (by simpa using hown.out)
        go_wp2
        go_ret
        exact ⟨ret_str (by rw [HM.out]), hb⟩
end Go.Proofs.Ytoffgcigmpjmbaa
