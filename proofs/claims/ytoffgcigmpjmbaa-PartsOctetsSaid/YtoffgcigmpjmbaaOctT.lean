import Derived.Test.YtoffgcigmpjmbaaOctU
namespace Go.Proofs.Ytoffgcigmpjmbaa
open Go.RowKit
noncomputable def octTail : Code := (Try.f3.body.bind (tailAt 15)).getD .skip
theorem put_is (n : Int) (k : Nat) (B : ByteArray) (w : World) (hn : n ≤ 9223372036854775807) (hn2 : -9223372036854775808 ≤ n) (hk : k ≤ 1000) (hB : bs (leB n.toNat (min k 8)) = B) :
    Calls Try.prog 11 #[.int .i64 n, .int .i64 k] w fun e w' => e = .returned (.string B) ∧ Below w.heap.size w w' := by
  subst hB; exact put_ok n k w hn hn2 hk
theorem gettext_is (a T s : ByteArray) (w : World) (h : T.data.toList = leB s.size 2 ++ s.data.toList) (hs : s.size ≤ 80) (ha : a.size ≤ 80) (hT : T.size = s.size + 2) :
    Calls Try.prog 13 #[.string (a ++ T ++ a), .int .i64 a.size] w fun e w' => e = .returned (.tuple #[.string s, .int .i64 (a.size + (s.size + 2) : Nat), .int .i64 0]) ∧ w' = w := by
  obtain ⟨h1, h2⟩ := str_sub a T s h hs
  have := gettext_ok (a ++ T ++ a) a.size s.size w (by simp only [ByteArray.size_append]; omega) h1 (by simp only [ByteArray.size_append]; omega)
  rw [h2, show a.size + 2 + s.size = a.size + (s.size + 2) from by omega] at this
  exact this
theorem gettext_cut (T s : ByteArray) (w : World) (h : T.data.toList = leB s.size 2 ++ s.data.toList) (hs : s.size ≤ 80) (hT : T.size = s.size + 2) :
    Calls Try.prog 13 #[.string (T.extract 0 (s.size + 1)), .int .i64 0] w fun e w' => e = .returned (.tuple #[.string ⟨#[]⟩, .int .i64 0, .int .i64 8]) ∧ w' = w := by
  have hz : (T.extract 0 (s.size + 1)).size = s.size + 1 := by simp; omega
  by_cases h1 : s.size = 0
  · exact gettext_short1 (T.extract 0 (s.size + 1)) 0 w (by omega) (by omega) (by omega)
  · exact gettext_short2 (T.extract 0 (s.size + 1)) 0 w (by omega) (by omega) (by rw [cut_sub T s h hs (by omega)]; omega)
theorem own_form {w : World} {base e size n : Nat} {v : Value} {xs : List Value} (h : w.ownsRow base e size v n xs) : ∃ A c, v = .slice A n c := by
  rcases h.2 with ⟨rfl, rfl⟩ | ⟨g, cap, cur, rfl, _⟩
  · exact ⟨_, _, rfl⟩
  · exact ⟨_, _, rfl⟩
theorem own_rd {α : Type} {enc : α → Value} {w : World} {base e n c : Nat} {A : Option Addr} {xs : List α} (h : w.ownsRow base e 1 (.slice A n c) n (xs.map enc)) : Rd w enc A xs := by
  intro j hj
  have hn : xs.length = n := by have := h.1; simpa using this
  rcases h.2 with ⟨h1, h2⟩ | ⟨g, cap, cur, h1, _⟩
  · omega
  · simp only [Value.slice.injEq] at h1
    obtain ⟨rfl, _, rfl⟩ := h1
    refine ⟨g, 0, rfl, ?_⟩
    rw [Nat.zero_add, World.ownsRow.cellAt h j (by omega), List.getElem?_map, List.getElem?_eq_getElem hj]; rfl
theorem Rd.below {α : Type} {enc : α → Value} {w w' : World} {A : Option Addr} {xs : List α} (h : Rd w enc A xs) (hb : Below w.heap.size w w') : Rd w' enc A xs := by
  intro j hj
  obtain ⟨b, o, rfl, hc⟩ := h j hj
  exact ⟨b, o, rfl, by rw [hb.cell (p := ⟨b, o + j, none⟩) (World.block_lt_of_cell? w _ hc)]; exact hc⟩
theorem equal_yes (A B : Option Addr) (xs : List Int) (n c d : Nat) (w : World) (hn : xs.length = n) (hx : Rd w (Value.int .i64) A xs) (hy : Rd w (Value.int .i64) B xs) (hl : n ≤ 1000000) :
    Calls Try.prog 18 #[.slice A n c, .slice B n d] w fun e w' => e = .returned (.bool true) ∧ ∃ n, w' = w.drewN n := by
  subst hn
  have := equal_ok A B xs xs c d w hx hy hl
  rwa [decide_eq_true rfl] at this
theorem putwords_is (A : Option Addr) (n c : Nat) (xs : List Int) (S : ByteArray) (w : World) (hn : xs.length = n) (hx : Rd w (Value.int .i64) A xs) (hl : n ≤ 1000) (hS : S = bs (wordsB xs)) :
    Calls Try.prog 17 #[.slice A n c] w fun e w' => e = .returned (.string S) ∧ Below w.heap.size w w' := by
  subst hn; subst hS
  exact putwords_ok A c xs w hx hl
set_option maxHeartbeats 2000000 in
set_option maxRecDepth 100000 in
theorem octets_tail (w0 w : World) (s a : ByteArray) (A : Option Addr) (m c tn : Nat) (ws : List Int) (hs : s.size ≤ 80) (ha : a.size ≤ 80) (hm : m ≤ 20) (hmw : m ≤ ws.length) (_hmc : m ≤ c) (htn : tn < 65536)
    (hw : Rd w0 (Value.int .i32) A ws) (hwr : ∀ x ∈ ws, -2147483648 ≤ x ∧ x ≤ 2147483647) (hb : Below w0.heap.size w0 w)
    (u0 u1 u6 u7 u8 u9 u10 u11 u13 u14 u15 u16 u17 u18 u19 u20 u21 u22 u23 u24 u25 u26 u27 u28 u29 u30 u31 u32 u33 u34 u35 u36 u37 u38 u39 u40 u41 u42 u43 u44 u45 u46 u47 u48 u49 u50 u51 u52 u53 u54 u55 u56 u57 u58 u59 u60 u61 u62 u63 u64 u65 u66 u67 u68 u69 u70 u71 u72 u73 u74 u75 u76 u77 u78 u79 u80 u81 u82 u83 u84 u85 u86 u87 u88 u89 u90 u91 u92 u93 u94 u95 u96 u97 u98 u99 u100 u101 u102 u103 u104 u105 u106 u107 u108 u109 u110 u111 u112 u113 u114 u115 u116 u117 u118 u119 u120 u121 u122 u123 u124 u125 u126 u127 u128 u129 u130 u131 u132 u133 u134 u135 u136 u137 u138 u139 u140 u141 u142 u143 u144 u145 u146 u147 u148 u149 u150 u151 u152 u153 u154 u155 u156 u157 u158 u159 u160 u161 u162 u163 u164 u165 u166 u167 u168 u169 u170 u171 u172 u173 u174 u175 u176 u177 u178 u179 u180 u181 u182 u183 u184 u185 u186 u187 u188 u189 u190 u191 u192 u193 u194 u195 u196 u197 u198 u199 u200 u201 u202 u203 u204 u205 u206 u207 u208 u209 u210 u211 u212 u213 u214 u215 u216 u217 u218 u219 u220 u221 u222 u223 u224 u225 u226 u227 u228 u229 u230 u231 u232 u233 u234 u235 u236 u237 u238 u239 u240 u241 u242 u243 u244 u245 u246 u247 u248 u249 u250 u251 u252 u253 u254 u255 u256 u257 u258 u259 u260 u261 u262 u263 u264 u265 u266 u267 u268 u269 u270 u271 u272 u273 u274 u275 u276 u277 u278 u279 u280 u281 u282 u283 u284 u285 u286 u287 u288 u289 u290 u291 u292 u293 u294 u295 u296 u297 u298 u299 u300 u301 u302 u303 u304 u305 u306 u307 u308 u309 u310 u311 u312 u313 u314 u315 u316 : Value) :
    Code.wp Try.prog octTail (bodyPost Try.prog Try.f3 (fun e w' => e = .returned (.bool true) ∧ Below w0.heap.size w0 w')) ⟨#[u0, u1, .string s, .string a, .slice A m c, .int .u16 tn, u6, u7, u8, u9, u10, u11, .bool false, u13, u14, u15, u16, u17, u18, u19, u20, u21, u22, u23, u24, u25, u26, u27, u28, u29, u30, u31, u32, u33, u34, u35, u36, u37, u38, u39, u40, u41, u42, u43, u44, u45, u46, u47, u48, u49, u50, u51, u52, u53, u54, u55, u56, u57, u58, u59, u60, u61, u62, u63, u64, u65, u66, u67, u68, u69, u70, u71, u72, u73, u74, u75, u76, u77, u78, u79, u80, u81, u82, u83, u84, u85, u86, u87, u88, u89, u90, u91, u92, u93, u94, u95, u96, u97, u98, u99, u100, u101, u102, u103, u104, u105, u106, u107, u108, u109, u110, u111, u112, u113, u114, u115, u116, u117, u118, u119, u120, u121, u122, u123, u124, u125, u126, u127, u128, u129, u130, u131, u132, u133, u134, u135, u136, u137, u138, u139, u140, u141, u142, u143, u144, u145, u146, u147, u148, u149, u150, u151, u152, u153, u154, u155, u156, u157, u158, u159, u160, u161, u162, u163, u164, u165, u166, u167, u168, u169, u170, u171, u172, u173, u174, u175, u176, u177, u178, u179, u180, u181, u182, u183, u184, u185, u186, u187, u188, u189, u190, u191, u192, u193, u194, u195, u196, u197, u198, u199, u200, u201, u202, u203, u204, u205, u206, u207, u208, u209, u210, u211, u212, u213, u214, u215, u216, u217, u218, u219, u220, u221, u222, u223, u224, u225, u226, u227, u228, u229, u230, u231, u232, u233, u234, u235, u236, u237, u238, u239, u240, u241, u242, u243, u244, u245, u246, u247, u248, u249, u250, u251, u252, u253, u254, u255, u256, u257, u258, u259, u260, u261, u262, u263, u264, u265, u266, u267, u268, u269, u270, u271, u272, u273, u274, u275, u276, u277, u278, u279, u280, u281, u282, u283, u284, u285, u286, u287, u288, u289, u290, u291, u292, u293, u294, u295, u296, u297, u298, u299, u300, u301, u302, u303, u304, u305, u306, u307, u308, u309, u310, u311, u312, u313, u314, u315, u316], []⟩ w := by
  obtain ⟨L, hL⟩ : ∃ L, bs (leB s.size 2) = L := ⟨_, rfl⟩
  obtain ⟨T, hT⟩ : ∃ T, L ++ s = T := ⟨_, rfl⟩
  have hTl : T.data.toList = leB s.size 2 ++ s.data.toList := by rw [← hT, ← hL]; simp [ByteArray.data_append, Array.toList_append]
  have hTs : T.size = s.size + 2 := by rw [← hT, ByteArray.size_append, ← hL]; simp; omega
  have hLs : L.size ≤ 2 := by rw [← hL]; simp
  have hPT : bs (leB s.size 2 ++ s.data.toList) = T := by rw [← hTl]; rfl
  have HL := Lib.hid hL
  have HTL := Lib.hid hTl
  have HTS := Lib.hid hTs
  have HPT := Lib.hid hPT
  have HW := Lib.hid hw
  have HWR := Lib.hid hwr
  obtain ⟨i0, hi, hz0, hz1, hz2⟩ := info_parts info3
  have hTb : T.size ≤ 82 := by omega
  have hTb1 : 2 ≤ T.size := by omega
  clear hL hTl hTs hPT hw hwr
  conv => arg 2; whnf
  go_wp2_with fail
  refine (little_is s.size 2 L _ (by omega) (by omega) HL.out).mono ?_
  rintro e w1 ⟨rfl, hb1⟩
  go_wp2_with fail
  clear hT
  have hc := gettext_is a T s w1 HTL.out hs ha HTS.out
  refine hc.mono ?_
  clear hc
  rintro e w2 ⟨rfl, rfl⟩
  go_wp2_with fail
  have hc := puttext_ok s w2 (by omega)
  rw [HPT.out] at hc
  refine hc.mono ?_
  clear hc
  rintro e w3 ⟨rfl, hb3⟩
  have hE : ((a.size : Int) + ((s.size : Int) + 2) != (a.size : Int) + (T.size : Int)) = false := by have := HTS.out; simp; omega
  go_wp2_with fail
  clear hE
  have hc := gettext_cut T s w3 HTL.out hs HTS.out
  rw [show s.size + 1 = T.size - 1 from by have := HTS.out; omega] at hc
  refine hc.mono ?_
  clear hc
  rintro e w4 ⟨rfl, rfl⟩
  go_wp2_with fail
  refine (gettext_bad T (-1) _ (by omega)).mono ?_
  rintro e w5 ⟨rfl, rfl⟩
  go_wp2_with fail
  have hbA : Below w0.heap.size w0 w5 := bl_step (bl_step hb hb1) hb3
  clear hb hb1 hb3
  go_loopw [23, 24, 192] (fun v23 v24 v192 wr => ∃ (j : Nat) (S : ByteArray), j ≤ m ∧ v23 = .string S ∧ v192 = .int .i64 j ∧ S.size ≤ 2 * j ∧ Hid (S = bs (wordsB (ws.take j))) ∧ Hid (wr.ownsRow w0.heap.size 3 1 v24 j (((ws.take j).map (· % 65536)).map (Value.int .i64))) ∧ Below w0.heap.size w0 wr) (fun _ _ v192 _ => m - (intOf v192).toNat)
  case atStart => exact ⟨0, ⟨#[]⟩, by omega, rfl, rfl, by decide, rfl, World.ownsRow_nil _ _ _ _, hbA⟩
  case round =>
    clear hbA
    obtain ⟨j, S, hj, rfl, rfl, hSz, HS, hown, hb⟩ := hrel
    by_cases hlt : j < m
    · obtain ⟨b, o, rfl, hcx⟩ := HW.out j (by omega)
      have hjl : j < ws.length := by omega
      have hr := HWR.out ws[j] (List.getElem_mem hjl)
      have hcell : wr.cell? ⟨b, o + j, none⟩ = some (.int .i32 ws[j]) := by rw [hb.cell (p := ⟨b, o + j, none⟩) (World.block_lt_of_cell? w0 _ hcx)]; exact hcx
      clear hcx
      obtain ⟨q, hq⟩ : ∃ q : Nat, ws[j] % 65536 = (q : Int) := ⟨(ws[j] % 65536).toNat, by omega⟩
      have hq2 : q < 65536 := by omega
      obtain ⟨P, hP⟩ : ∃ P, bs (leB q 2) = P := ⟨_, rfl⟩
      have hPs : P.size = 2 := by rw [← hP]; simp
      have hPs2 : P.size ≤ 2 := by omega
      have HP := Lib.hid hP
      have HPS := Lib.hid hPs
      have HQ := Lib.hid hq
      clear hP hPs
      obtain ⟨x, hx⟩ : ∃ x, ws[j] = x := ⟨_, rfl⟩
      rw [hx] at hr hcell hq
      have HX := Lib.hid hx
      clear hx
      go_wp2_with fail
      refine (over_ok x _).mono ?_
      rintro e w6 ⟨rfl, rfl⟩
      rw [hq]
      go_wp2_with fail
      refine (little_is q 2 P _ (by omega) (by omega) HP.out).mono ?_
      rintro e w7 ⟨rfl, hb7⟩
      go_wp2_with fail
      refine (over_ok x _).mono ?_
      rintro e w8 ⟨rfl, rfl⟩
      rw [hq]
      go_wp2_with (at_builtin; refine append_lit w0 w8 rfl (.tmp 202) (.tmp 206) 31 rfl 3 i0 (.int .i64 0) 1 8 Try.underlying31 hi hz0 hz1 hz2 rfl (by decide) u24 j _ rfl (World.ownsRow.below_ hown.out hb7) 1 [.int .i64 q] rfl rfl (by simp [Value.oneCell']) (by unfold maxLen; omega) (by omega) (bl_step hb hb7) ?_; intro v1 w9 hown9 hb9)
      refine ⟨⟨j + 1, S ++ P, by omega, rfl, by go_num, by rw [ByteArray.size_append]; omega, ?_, ?_, hb9⟩, by simp [intOf]; omega⟩
      · exact words_step S P ws j q hjl HS.out (by rw [HX.out]; exact hq) HP.out
      · show World.ownsRow _ _ _ _ _ _ _
        rw [ovs_step ws j hjl, HX.out, hq]
        exact hown9
    · obtain rfl : m = j := by omega
      go_wp2_with fail
      obtain ⟨wA, rfl⟩ : ∃ wA : World, wA = wr := ⟨_, rfl⟩
      go_loopw [27, 211] (fun v27 v211 wx => ∃ (j : Nat), j ≤ m ∧ v211 = .int .i64 j ∧ Hid (wx.ownsRow wA.heap.size 3 1 v27 j ((ws.take j).map (Value.int .i64))) ∧ Below wA.heap.size wA wx) (fun _ v211 _ => m - (intOf v211).toNat)
      case atStart => exact ⟨0, by omega, rfl, World.ownsRow_nil _ _ _ _, Below.refl _ _⟩
      case round =>
        obtain ⟨j, hj, rfl, hown2, hb2⟩ := hrel
        by_cases hlt : j < m
        · obtain ⟨b, o, rfl, hcx⟩ := HW.out j (by omega)
          have hjl : j < ws.length := by omega
          have hr := HWR.out ws[j] (List.getElem_mem hjl)
          have hcell : wr.cell? ⟨b, o + j, none⟩ = some (.int .i32 ws[j]) := by rw [(bl_step hb hb2).cell (p := ⟨b, o + j, none⟩) (World.block_lt_of_cell? w0 _ hcx)]; exact hcx
          clear hcx
          go_wp2_with (at_builtin; refine append_lit wA wr rfl (.tmp 215) (.tmp 218) 31 rfl 3 i0 (.int .i64 0) 1 8 Try.underlying31 hi hz0 hz1 hz2 rfl (by decide) u27 j _ rfl hown2.out 1 [.int .i64 ws[j]] rfl rfl (by simp [Value.oneCell']) (by unfold maxLen; omega) (by omega) hb2 ?_; intro v1 w9 hown9 hb9)
          refine ⟨⟨j + 1, by omega, by go_num, ?_, hb9⟩, by simp [intOf]; omega⟩
          show World.ownsRow _ _ _ _ _ _ _
          rw [ints_step ws j hjl]
          exact hown9
        · obtain rfl : m = j := by omega
          go_wp2_with fail
          have hSm : S.size = 2 * m := by rw [HS.out, bs_size, wordsB_length, List.length_take]; omega
          have hSl : S.size ≤ 40 := by omega
          have HSM := Lib.hid hSm
          have hlen : ((ws.take m).map (· % 65536)).length = m := by simp; omega
          have hlen2 : (ws.take m).length = m := by simp; omega
          have HLEN := Lib.hid hlen
          have HLEN2 := Lib.hid hlen2
          clear hlen hlen2 hSm
          obtain ⟨B2, c2, rfl⟩ := own_form hown.out
          obtain ⟨B3, c3, rfl⟩ := own_form hown2.out
          have RD2 := Lib.hid (own_rd hown.out)
          have RD3 := Lib.hid (own_rd hown2.out)
          clear hown hown2
          have hc := getwords_ok S m wr HSM.out (by omega)
          have hbk : (List.range m).map (wordAt S) = (ws.take m).map (· % 65536) := by rw [HS.out, words_back ws m hmw]
          rw [hbk] at hc
          refine hc.mono ?_
          clear hc hbk
          rintro e w10 ⟨v1, rfl, hback, hb10⟩
          obtain ⟨B1, c1, rfl⟩ := own_form hback
          have RD1 := Lib.hid (own_rd hback)
          clear hback
          go_wp2_with fail
          have hc := getwords_odd (S ++ (⟨#[120]⟩ : ByteArray)) w10 (by have := HSM.out; rw [ByteArray.size_append, x_size]; omega)
          refine hc.mono ?_
          clear hc
          rintro e w11 ⟨rfl, rfl⟩
          go_wp2_with fail
          refine (putwords_is B3 m c3 _ S _ HLEN2.out (RD3.out.below hb10) (by omega) HS.out).mono ?_
          rintro e w12 ⟨rfl, hb12⟩
          go_wp2_with fail
          refine (equal_yes B1 B2 _ m c1 c2 _ HLEN.out (RD1.out.below hb12) (RD2.out.below (bl_step (bl_step hb2 hb10) hb12)) (by omega)).mono ?_
          rintro e w13 ⟨rfl, nd, rfl⟩
          have hbE : Below w0.heap.size w0 (w12.drewN nd) := ((bl_step (bl_step (bl_step hb hb2) hb10) hb12).trans ⟨rfl, rfl, rfl, Nat.le_refl _, fun _ _ => rfl⟩)
          go_upto_if 249 with fail
          go_step
          go_step
          go_step
          go_step
          refine octets_tail2 w0 _ s tn hs htn hbE _ _ _ _ _ _ _ _ _ _ _ _ _ _ _ _ _ _ _ _ _ _ _ _ _ _ _ _ _ _ _ _ _ _ _ _ _ _ _ _ _ _ _ _ _ _ _ _ _ _ _ _ _ _ _ _ _ _ _ _ _ _ _ _ _ _ _ _ _ _ _ _ _ _ _ _ _ _ _ _ _ _ _ _ _ _ _ _ _ _ _ _ _ _ _ _ _ _ _ _ _ _ _ _ _ _ _ _ _ _ _ _ _ _ _ _ _ _ _ _ _ _ _ _ _ _ _ _ _ _ _ _ _ _ _ _ _ _ _ _ _ _ _ _ _ _ _ _ _ _ _ _ _ _ _ _ _ _ _ _ _ _ _ _ _ _ _ _ _ _ _ _ _ _ _ _ _ _ _ _ _ _ _ _ _ _ _ _ _ _ _ _ _ _ _ _ _ _ _ _ _ _ _ _ _ _ _ _ _ _ _ _ _ _ _ _ _ _ _ _ _ _ _ _ _ _ _ _ _ _ _ _ _ _ _ _ _ _ _ _ _ _ _ _ _ _ _ _ _ _ _ _ _ _ _ _ _ _ _ _ _ _ _ _ _ _ _ _ _ _ _ _ _ _ _ _ _ _ _ _ _ _ _ _ _ _ _ _ _ _ _ _ _ _ _ _ _ _ _ _ _ _ _ _ _ _ _ _ _ _ _ _ _ _
end Go.Proofs.Ytoffgcigmpjmbaa
