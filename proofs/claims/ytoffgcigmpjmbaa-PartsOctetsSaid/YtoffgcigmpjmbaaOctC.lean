import Derived.Test.YtoffgcigmpjmbaaOctB
import Derived.Lib.AppendStr
import Derived.Lib.IndexBytes
namespace Go.Proofs.Ytoffgcigmpjmbaa
open Go.RowKit
def cat : List ByteArray → List UInt8
  | [] => []
  | s :: l => s.data.toList ++ cat l
theorem cat_append (a b : List ByteArray) : cat (a ++ b) = cat a ++ cat b := by induction a <;> simp_all [cat]
theorem cat_take_succ (l : List ByteArray) (k : Nat) (h : k < l.length) : cat (l.take (k + 1)) = cat (l.take k) ++ l[k].data.toList := by
  rw [List.take_succ_eq_append_getElem h, cat_append]; simp [cat]
theorem cat_take_le (l : List ByteArray) (k : Nat) : (cat (l.take k)).length ≤ (cat l).length := by
  conv => rhs; rw [← List.take_append_drop k l, cat_append, List.length_append]
  omega
theorem strCells_enc (s : ByteArray) : Lib.strCells s = s.data.toList.map encB := by unfold Lib.strCells; rfl
set_option maxHeartbeats 400000 in
set_option maxRecDepth 10000 in
theorem joined_ok (b o c : Nat) (l : List ByteArray) (w : World) (hl : l.length ≤ 1000) (hsz : (cat l).length ≤ 1000000)
    (hc : ∀ j (h : j < l.length), w.cell? ⟨b, o + j, none⟩ = some (.string l[j])) :
    Calls Try.prog 103 #[.slice (some ⟨b, o, none⟩) l.length c] w fun e w' => e = .returned (.string (bs (cat l))) ∧ Below w.heap.size w w' := by
  obtain ⟨i0, hi, hz0, hz1, hz2⟩ := info_parts info5
  go_enter Try.func103, Try.ntmps103
  go_wp2
  have hbl : ∀ j (h : j < l.length), b < w.heap.size := fun j h => World.block_lt_of_cell? w _ (hc j h)
  have HC := Lib.hid hc
  clear hc
  go_loopw [3, 8] (fun v3 v8 wr => ∃ j : Nat, j ≤ l.length ∧ v8 = .int .i64 j ∧ Hid (wr.ownsRow w.heap.size 5 1 v3 (cat (l.take j)).length ((cat (l.take j)).map encB)) ∧ Below w.heap.size w wr) (fun _ v8 _ => l.length - (intOf v8).toNat)
  case atStart => exact ⟨0, by omega, rfl, World.ownsRow_nil _ _ _ _, Below.refl _ _⟩
  case round =>
    obtain ⟨j, hj, rfl, hown, hb⟩ := hrel
    by_cases hlt : j < l.length
    · have hcell : wr.cell? ⟨b, o + j, none⟩ = some (.string l[j]) := by rw [hb.cell (p := ⟨b, o + j, none⟩) (hbl j hlt)]; exact HC.out j hlt
      have hle := cat_take_le l (j + 1)
      rw [cat_take_succ l j hlt, List.length_append] at hle
      have hsz2 : (cat (l.take j)).length + l[j].size ≤ 1000000 := by simp at hle; omega
      go_wp2_with (at_builtin; refine Lib.wpList_append_own_string wr rfl (.tmp 12) (.tmp 13) 40 9 rfl w.heap.size 5 i0 Try.underlying40 Try.underlying9 hi hz0 hz1 hz2 u3 _ _ rfl hown.out l[j] rfl (by unfold maxLen; omega) (by omega) hb.size ?_; intro v1 w1 hown1 hg1 _)
      refine ⟨⟨j + 1, by omega, by go_num, ?_, hb.grown hg1 hb.size (fun k hk => (hown.out.lt k hk).1)⟩, by simp [intOf]; omega⟩
      show World.ownsRow _ _ _ _ _ _ _
      rw [cat_take_succ l j hlt, List.map_append, List.length_append]
      exact hown1
    · obtain rfl : j = l.length := by omega
      have hcv := cv_bytes_any hown.out
      go_wp2
      go_ret
      exact ⟨ret_str rfl, hb⟩
theorem ba_ext {a b : ByteArray} (h : a.data.toList = b.data.toList) : a = b := ByteArray.ext (Array.toList_inj.1 h)
theorem sub_size (s : ByteArray) (a k : Nat) : (s.extract a s.size).extract 0 k = bs (sub s a k) := by
  apply ba_ext
  rw [Lib.extract_data, Lib.extract_to_end]
  rfl
set_option maxHeartbeats 400000 in
set_option maxRecDepth 10000 in
theorem gettext_bad (s : ByteArray) (a : Int) (w : World) (h : a < 0) :
    Calls Try.prog 13 #[.string s, .int .i64 a] w fun e w' => e = .returned (.tuple #[.string ⟨#[]⟩, .int .i64 0, .int .i64 1]) ∧ w' = w := by
  go_enter Try.func13, Try.ntmps13
  go_wp2_with (go_at_call 12; refine (get_bad s a 2 _ (by omega)).mono ?_; rintro e w' ⟨rfl, rfl⟩)
  go_ret3
  exact ⟨rfl, rfl⟩
set_option maxHeartbeats 400000 in
set_option maxRecDepth 10000 in
theorem gettext_short1 (s : ByteArray) (a : Nat) (w : World) (hs : s.size ≤ 140737488351232) (h1 : a ≤ s.size) (h2 : s.size < a + 2) :
    Calls Try.prog 13 #[.string s, .int .i64 a] w fun e w' => e = .returned (.tuple #[.string ⟨#[]⟩, .int .i64 0, .int .i64 8]) ∧ w' = w := by
  go_enter Try.func13, Try.ntmps13
  go_wp2_with (go_at_call 12; refine (get_short s a 2 _ hs (by omega) (by omega) h1 h2).mono ?_; rintro e w' ⟨rfl, rfl⟩)
  go_ret3
  exact ⟨rfl, rfl⟩
set_option maxHeartbeats 400000 in
set_option maxRecDepth 10000 in
theorem gettext_short2 (s : ByteArray) (a : Nat) (w : World) (hs : s.size ≤ 140737488351232) (h1 : a + 2 ≤ s.size) (h2 : s.size < a + 2 + deB (sub s a 2)) :
    Calls Try.prog 13 #[.string s, .int .i64 a] w fun e w' => e = .returned (.tuple #[.string ⟨#[]⟩, .int .i64 0, .int .i64 8]) ∧ w' = w := by
  have hlt := sub_deB_lt s a 2 2 h1 (by omega)
  generalize hd : deB (sub s a 2) = d at *
  have HD := Lib.hid hd
  clear hd
  go_enter Try.func13, Try.ntmps13
  go_wp2_with (go_at_call 12; refine (get_ok s a 2 _ hs (by omega) (by omega) h1).mono ?_; rintro e w' ⟨rfl, rfl⟩; rw [HD.out])
  go_ret3
  exact ⟨rfl, rfl⟩
set_option maxHeartbeats 400000 in
set_option maxRecDepth 10000 in
theorem gettext_ok (s : ByteArray) (a n : Nat) (w : World) (hs : s.size ≤ 140737488351232) (hn : deB (sub s a 2) = n) (h2 : a + 2 + n ≤ s.size) :
    Calls Try.prog 13 #[.string s, .int .i64 a] w fun e w' => e = .returned (.tuple #[.string (bs (sub s (a + 2) n)), .int .i64 (a + 2 + n : Nat), .int .i64 0]) ∧ w' = w := by
  have HD := Lib.hid hn
  clear hn
  go_enter Try.func13, Try.ntmps13
  go_wp2_with (go_at_call 12; refine (get_ok s a 2 _ hs (by omega) (by omega) (by omega)).mono ?_; rintro e w' ⟨rfl, rfl⟩; rw [HD.out])
  go_ret3
  exact ⟨by rw [sub_size]; rfl, rfl⟩
set_option maxHeartbeats 400000 in
set_option maxRecDepth 10000 in
theorem puttext_ok (s : ByteArray) (w : World) (hs : s.size ≤ 1000) :
    Calls Try.prog 14 #[.string s] w fun e w' => e = .returned (.string (bs (leB s.size 2 ++ s.data.toList))) ∧ Below w.heap.size w w' := by
  go_enter Try.func14, Try.ntmps14
  go_wp2_with fail
  refine (put_ok s.size 2 _ (by omega) (by omega) (by omega)).mono ?_
  rintro e w1 ⟨rfl, hb1⟩
  go_wp2_with fail
  refine (joined_ok w1.heap.size 0 2 [bs (leB s.size 2), s] _ (by simp) (by simp [cat]; omega) (fun j h => ?_)).mono ?_
  · have : j = 0 ∨ j = 1 := by simp at h; omega
    rcases this with rfl | rfl <;> (rw [World.cell?_alloc_new]; rfl)
  rintro e w2 ⟨rfl, hb2⟩
  go_wp2
  go_ret
  exact ⟨ret_str (by simp [cat]), bl_step (bl_alloc hb1 _) hb2⟩
set_option maxHeartbeats 400000 in
set_option maxRecDepth 10000 in
theorem over_ok (n : Int) (w : World) :
    Calls Try.prog 15 #[.int .i64 n] w fun e w' => e = .returned (.int .i64 (n % 65536)) ∧ w' = w := by
  go_enter Try.func15, Try.ntmps15
  go_wp2
  go_ret
  exact ⟨ret_int (over_eq n), rfl⟩
def Rd {α : Type} (w : World) (enc : α → Value) (A : Option Addr) (xs : List α) : Prop :=
  ∀ j (h : j < xs.length), ∃ b o, A = some ⟨b, o, none⟩ ∧ w.cell? ⟨b, o + j, none⟩ = some (enc xs[j])
set_option maxHeartbeats 400000 in
set_option maxRecDepth 10000 in
theorem equal_ok (A B : Option Addr) (xs ys : List Int) (c d : Nat) (w : World) (hx : Rd w (Value.int .i64) A xs) (hy : Rd w (Value.int .i64) B ys) (hl : xs.length ≤ 1000000) :
    Calls Try.prog 18 #[.slice A xs.length c, .slice B ys.length d] w fun e w' => e = .returned (.bool (decide (xs = ys))) ∧ ∃ n, w' = w.drewN n := by
  have HX := Lib.hid hx
  have HY := Lib.hid hy
  clear hx hy
  by_cases hlen : xs.length = ys.length
  · have hd : ((xs.length : Int) != (ys.length : Int)) = false := by simp [hlen]
    have hmx := Lib.hid hlen
    go_enter Try.func18, Try.ntmps18
    go_wp2
    go_loopw [13] (fun v13 wr => ∃ j : Nat, j ≤ xs.length ∧ v13 = .int .i64 j ∧ Hid (∀ i (h : i < j) (hx : i < xs.length) (hy : i < ys.length), xs[i] = ys[i]) ∧ ∃ n, wr = w.drewN n) (fun v13 _ => xs.length - (intOf v13).toNat)
    case atStart => exact ⟨0, by omega, rfl, by intro i h; omega, 0, rfl⟩
    case round =>
      obtain ⟨j, hj, rfl, HE, n, rfl⟩ := hrel
      by_cases hlt : j < xs.length
      · have hltm : j < ys.length := by omega
        obtain ⟨b, o, rfl, hcx⟩ := HX.out j hlt
        obtain ⟨b', o', rfl, hcy⟩ := HY.out j hltm
        clear hlen
        go_wp2
        go_quiet (fail)
        by_cases he : xs[j] = ys[j]
        · have hne : (xs[j] != ys[j]) = false := by simp [he]
          have HEJ := Lib.hid he
          clear he
          go_wp2
          refine ⟨⟨j + 1, by omega, by go_num, ?_, _, rfl⟩, by simp [intOf]; omega⟩
          intro i hi h1 h2
          by_cases hij : i < j
          · exact HE.out i hij h1 h2
          · obtain rfl : i = j := by omega
            exact HEJ.out
        · have hne : (xs[j] != ys[j]) = true := by simp [he]
          go_wp2
          go_ret
          exact ⟨by rw [decide_eq_false (fun h => he (by subst h; rfl))]; rfl, _, World.drewN_drewN _ _ _⟩
      · go_wp2
        go_ret
        exact ⟨by rw [decide_eq_true (List.ext_getElem hlen (fun i h1 h2 => HE.out i (by omega) h1 h2))]; rfl, _, rfl⟩
  · have hd : ((xs.length : Int) != (ys.length : Int)) = true := by simp; omega
    go_enter Try.func18, Try.ntmps18
    go_wp2
    go_ret
    exact ⟨by rw [decide_eq_false (fun h => hlen (by rw [h]))]; rfl, 0, rfl⟩
end Go.Proofs.Ytoffgcigmpjmbaa
