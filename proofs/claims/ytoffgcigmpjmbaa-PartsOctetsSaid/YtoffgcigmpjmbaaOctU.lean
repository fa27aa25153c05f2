import Derived.Test.YtoffgcigmpjmbaaOctM
import Derived.Test.YtoffgcigmpjmbaaAwake
import Derived.Lib.ConvBytes
namespace Go.Proofs.Ytoffgcigmpjmbaa
open Go.RowKit
noncomputable def octTail2 : Code := (Try.f3.body.bind (tailAt 40)).getD .skip
theorem little_is (n k : Nat) (B : ByteArray) (w : World) (hn : (n : Int) ≤ 9223372036854775807) (hk : k ≤ 1000) (hB : bs (leB n k) = B) :
    Calls Try.prog 10 #[.int .i64 n, .int .i64 k] w fun e w' => e = .returned (.string B) ∧ Below w.heap.size w w' := by
  subst hB; exact little_ok n k w hn hk
theorem checked_is (s : ByteArray) (x : Nat) (w : World) (hs : s.size ≤ 1000) (hx : crcOf s.data.toList = x) :
    Calls Try.prog 19 #[.string s] w fun e w' => e = .returned (.int .i64 x) ∧ w' = w := by
  subst hx; exact checked_ok s w (by omega)
theorem crc_is (s : ByteArray) (x : Nat) (w : World) (hs : s.size ≤ 1000) (hx : crcOf s.data.toList = x) :
    Calls Try.prog 21 #[.string s] w fun e w' => e = .returned (.int .i64 x) ∧ Below w.heap.size w w' := by
  subst hx; exact crc_ok s w (by omega)
theorem seal_is (s Z : ByteArray) (w : World) (hs : s.size ≤ 1000) (hZ : s.data.toList ++ leB (crcOf s.data.toList) 4 = Z.data.toList) :
    Calls Try.prog 22 #[.string s] w fun e w' => e = .returned (.string Z) ∧ Below w.heap.size w w' := by
  have := seal_ok s w hs
  rwa [hZ] at this
theorem open_is (s Z : ByteArray) (w : World) (hs : s.size ≤ 80) (hZ : s.data.toList ++ leB (crcOf s.data.toList) 4 = Z.data.toList) (hz : Z.size = s.size + 4) :
    Calls Try.prog 20 #[.string Z] w fun e w' => e = .returned (.tuple #[.string s, .int .i64 0]) ∧ Below w.heap.size w w' := by
  have e1 : Z.data.toList.take s.size = s.data.toList := by rw [← hZ, List.take_append_of_le_length (by simp), List.take_of_length_le (by simp)]
  have e2 : Z.data.toList.drop s.size = leB (crcOf s.data.toList) 4 := by rw [← hZ, List.drop_append_of_le_length (by simp), List.drop_eq_nil_of_le (by simp), List.nil_append]
  have := open_yes Z s.size w (by omega) hz (by rw [e1, e2])
  rwa [e1] at this
theorem open_flip (s Z F : ByteArray) (i : Nat) (b : UInt8) (w : World) (hs : s.size ≤ 80) (hZ : s.data.toList ++ leB (crcOf s.data.toList) 4 = Z.data.toList) (hz : Z.size = s.size + 4)
    (hi : i < Z.size) (hF : F.data.toList = Z.data.toList.set i b) (hb : b ≠ Z[i]) :
    Calls Try.prog 20 #[.string F] w fun e w' => e = .returned (.tuple #[.string ⟨#[]⟩, .int .i64 10]) ∧ Below w.heap.size w w' := by
  have hfs : F.size = s.size + 4 := by
    have := congrArg List.length hF
    simp only [Array.length_toList, List.length_set] at this
    exact this.trans hz
  refine open_no F s.size w (by omega) hfs ?_
  have hsl : s.data.toList.length = s.size := by simp
  have key := unsealed s.data.toList i b (by omega) (by
    have : (s.data.toList ++ leB (crcOf s.data.toList) 4)[i]'(by simp; omega) = Z[i] := by
      simp only [hZ]; rfl
    rw [this]; exact hb)
  rw [hZ, ← hF, hsl] at key
  exact key
theorem to_bytes (w : World) (Z : ByteArray) : ∃ cap wB, (convert 9 40 (.string Z)).run Try.prog w = .ok (.slice (some ⟨w.heap.size, 0, none⟩) Z.size cap) wB ∧ Z.size ≤ cap ∧ wB.heap.size = w.heap.size + 1 ∧ Below w.heap.size w wB ∧
    (∀ j (h : j < Z.size), wB.cell? ⟨w.heap.size, j, none⟩ = some (.int .u8 (Z[j].toNat : Nat))) ∧ (∀ j, j < Z.size → wB.frozen? ⟨w.heap.size, j, none⟩ = false) := by
  refine ⟨_, _, Lib.run_convert_string_bytes (P := Try.prog) w 9 40 5 Z Try.underlying9 Try.underlying40 Try.underlying5, grownCap_ge _ _ _ _, Lib.bytesWorld_size w 5 Z, ?_, ?_, ?_⟩
  · exact ⟨rfl, rfl, rfl, by rw [Lib.bytesWorld_size]; omega, fun k hk => Lib.bytesWorld_at_old w 5 Z k hk⟩
  · intro j h
    rw [Lib.bytesWorld_cell w 5 Z j h]
    simp only [List.getD, List.getElem?_eq_getElem (show j < Z.data.toList.length from h), Option.getD_some]
    rfl
  · intro j h
    simp only [World.frozen?, Lib.bytesWorld_at_new]
    have : (Lib.bytesCells w 5 Z).size ≥ Z.size := by simp [Lib.bytesCells]
    simp; omega
theorem from_bytes (wB : World) (g cap i : Nat) (Z : ByteArray) (b : UInt8) (hi : i < Z.size) (hc : ∀ j (h : j < Z.size), wB.cell? ⟨g, j, none⟩ = some (.int .u8 (Z[j].toNat : Nat))) :
    (convert 40 9 (.slice (some ⟨g, 0, none⟩) Z.size cap)).run Try.prog (wB.setCell ⟨g, i, none⟩ (.int .u8 (b.toNat : Nat))) = .ok (.string (bs (Z.data.toList.set i b))) (wB.setCell ⟨g, i, none⟩ (.int .u8 (b.toNat : Nat))) := by
  have hs : strOfNums ((Z.data.toList.set i b).map fun b => (b.toNat : Int)) = bs (Z.data.toList.set i b) := by
    unfold strOfNums bs; congr 1; rw [List.map_map]; congr 1
    conv => rhs; rw [← List.map_id (Z.data.toList.set i b)]
    exact List.map_congr_left fun b _ => by simp
  have hl : ((Z.data.toList.set i b).map fun b => (b.toNat : Int)).length = Z.size := by simp
  have := run_convert_bytes_arg (P := Try.prog) (wB.setCell ⟨g, i, none⟩ (.int .u8 (b.toNat : Nat))) 40 5 Try.underlying40 Try.underlying5 g 0 Z.size cap _ hl (fun j hj => ?_) 9 Try.underlying9
  · rw [hs] at this; exact this
  · rw [Nat.zero_add]
    by_cases hij : j = i
    · subst hij
      rw [World.cell?_setCell_same _ _ _ (hc j hj)]
      simp [List.getD, hj]
    · rw [World.cell?_setCell_other _ _ _ _ (fun h => hij (by simpa using h.symm)), hc j hj]
      simp [List.getD, hj, Ne.symm hij]
      rfl
set_option maxHeartbeats 4000000 in
set_option maxRecDepth 100000 in
theorem octets_tail2 (w0 w : World) (s : ByteArray) (tn : Nat) (hs : s.size ≤ 80) (htn : tn < 65536) (hb : Below w0.heap.size w0 w)
    (u0 u1 u3 u4 u6 u7 u8 u9 u10 u11 u13 u14 u15 u16 u17 u18 u19 u20 u21 u22 u23 u24 u25 u26 u27 u28 u29 u30 u31 u32 u33 u34 u35 u36 u37 u38 u39 u40 u41 u42 u43 u44 u45 u46 u47 u48 u49 u50 u51 u52 u53 u54 u55 u56 u57 u58 u59 u60 u61 u62 u63 u64 u65 u66 u67 u68 u69 u70 u71 u72 u73 u74 u75 u76 u77 u78 u79 u80 u81 u82 u83 u84 u85 u86 u87 u88 u89 u90 u91 u92 u93 u94 u95 u96 u97 u98 u99 u100 u101 u102 u103 u104 u105 u106 u107 u108 u109 u110 u111 u112 u113 u114 u115 u116 u117 u118 u119 u120 u121 u122 u123 u124 u125 u126 u127 u128 u129 u130 u131 u132 u133 u134 u135 u136 u137 u138 u139 u140 u141 u142 u143 u144 u145 u146 u147 u148 u149 u150 u151 u152 u153 u154 u155 u156 u157 u158 u159 u160 u161 u162 u163 u164 u165 u166 u167 u168 u169 u170 u171 u172 u173 u174 u175 u176 u177 u178 u179 u180 u181 u182 u183 u184 u185 u186 u187 u188 u189 u190 u191 u192 u193 u194 u195 u196 u197 u198 u199 u200 u201 u202 u203 u204 u205 u206 u207 u208 u209 u210 u211 u212 u213 u214 u215 u216 u217 u218 u219 u220 u221 u222 u223 u224 u225 u226 u227 u228 u229 u230 u231 u232 u233 u234 u235 u236 u237 u238 u239 u240 u241 u242 u243 u244 u245 u246 u247 u248 u249 u250 u251 u252 u253 u254 u255 u256 u257 u258 u259 u260 u261 u262 u263 u264 u265 u266 u267 u268 u269 u270 u271 u272 u273 u274 u275 u276 u277 u278 u279 u280 u281 u282 u283 u284 u285 u286 u287 u288 u289 u290 u291 u292 u293 u294 u295 u296 u297 u298 u299 u300 u301 u302 u303 u304 u305 u306 u307 u308 u309 u310 u311 u312 u313 u314 u315 u316 : Value) :
    Code.wp Try.prog octTail2 (bodyPost Try.prog Try.f3 (fun e w' => e = .returned (.bool true) ∧ Below w0.heap.size w0 w')) ⟨#[u0, u1, .string s, u3, u4, .int .u16 tn, u6, u7, u8, u9, u10, u11, .bool false, u13, u14, u15, u16, u17, u18, u19, u20, u21, u22, u23, u24, u25, u26, u27, u28, u29, u30, u31, u32, u33, u34, u35, u36, u37, u38, u39, u40, u41, u42, u43, u44, u45, u46, u47, u48, u49, u50, u51, u52, u53, u54, u55, u56, u57, u58, u59, u60, u61, u62, u63, u64, u65, u66, u67, u68, u69, u70, u71, u72, u73, u74, u75, u76, u77, u78, u79, u80, u81, u82, u83, u84, u85, u86, u87, u88, u89, u90, u91, u92, u93, u94, u95, u96, u97, u98, u99, u100, u101, u102, u103, u104, u105, u106, u107, u108, u109, u110, u111, u112, u113, u114, u115, u116, u117, u118, u119, u120, u121, u122, u123, u124, u125, u126, u127, u128, u129, u130, u131, u132, u133, u134, u135, u136, u137, u138, u139, u140, u141, u142, u143, u144, u145, u146, u147, u148, u149, u150, u151, u152, u153, u154, u155, u156, u157, u158, u159, u160, u161, u162, u163, u164, u165, u166, u167, u168, u169, u170, u171, u172, u173, u174, u175, u176, u177, u178, u179, u180, u181, u182, u183, u184, u185, u186, u187, u188, u189, u190, u191, u192, u193, u194, u195, u196, u197, u198, u199, u200, u201, u202, u203, u204, u205, u206, u207, u208, u209, u210, u211, u212, u213, u214, u215, u216, u217, u218, u219, u220, u221, u222, u223, u224, u225, u226, u227, u228, u229, u230, u231, u232, u233, u234, u235, u236, u237, u238, u239, u240, u241, u242, u243, u244, u245, u246, u247, u248, u249, u250, u251, u252, u253, u254, u255, u256, u257, u258, u259, u260, u261, u262, u263, u264, u265, u266, u267, u268, u269, u270, u271, u272, u273, u274, u275, u276, u277, u278, u279, u280, u281, u282, u283, u284, u285, u286, u287, u288, u289, u290, u291, u292, u293, u294, u295, u296, u297, u298, u299, u300, u301, u302, u303, u304, u305, u306, u307, u308, u309, u310, u311, u312, u313, u314, u315, u316], []⟩ w := by
  obtain ⟨x, hx⟩ : ∃ x, crcOf s.data.toList = x := ⟨_, rfl⟩
  have hxl : x < 4294967296 := by rw [← hx]; exact crcOf_lt _
  obtain ⟨C, hC⟩ : ∃ C, bs (leB x 4) = C := ⟨_, rfl⟩
  have hCs : C.size ≤ 4 := by rw [← hC]; simp
  obtain ⟨Z, hZ⟩ : ∃ Z, s ++ C = Z := ⟨_, rfl⟩
  have hZl : s.data.toList ++ leB (crcOf s.data.toList) 4 = Z.data.toList := by rw [← hZ, ← hC, hx]; simp [ByteArray.data_append, Array.toList_append]
  have hZs : Z.size = s.size + 4 := by rw [← hZ, ByteArray.size_append, ← hC]; simp
  have hZb : Z.size ≤ 84 := by omega
  have hZb1 : 4 ≤ Z.size := by omega
  have HX := Lib.hid hx
  have HC := Lib.hid hC
  have HZL := Lib.hid hZl
  have HZS := Lib.hid hZs
  clear hx hC hZl hZs
  conv => arg 2; whnf
  go_wp2_with fail
  refine (checked_is s x _ (by omega) HX.out).mono ?_
  rintro e w1 ⟨rfl, rfl⟩
  go_wp2_with fail
  refine (little_is x 4 C _ (by omega) (by omega) HC.out).mono ?_
  rintro e w2 ⟨rfl, hb2⟩
  go_wp2_with fail
  clear hZ
  refine (open_is s Z _ hs HZL.out HZS.out).mono ?_
  rintro e w3 ⟨rfl, hb3⟩
  obtain ⟨cap, wB, hcv, hcap, hwB, hbB, hcB, hfB⟩ := to_bytes w3 Z
  obtain ⟨i, hi⟩ : ∃ i : Nat, i = tn / 8 % Z.size := ⟨_, rfl⟩
  have hie : (tn : Int) / 8 % (Z.size : Int) = (i : Int) := by rw [hi]; simp
  have hil : i < Z.size := by rw [hi]; exact Nat.mod_lt _ (by omega)
  have hcell := hcB i hil
  have hfro := hfB i hil
  have HCB := Lib.hid hcB
  obtain ⟨b', hb'⟩ : ∃ b', b' = UInt8.ofNat ((Z[i].toNat ^^^ 2 ^ (tn % 8)) % 256) := ⟨_, rfl⟩
  have hne : b' ≠ Z[i] := by rw [hb']; exact flip_ne _ _ (by omega)
  have hxor : bits .xor .u8 ((Z[i].toNat : Nat) : Int) ((2 : Int) ^ (tn % 8) % 256) = (b'.toNat : Int) := by rw [hb']; exact xor_flip _ _ (by omega)
  have hcv2 := from_bytes wB w3.heap.size cap i Z b' hil hcB
  obtain ⟨F, hF⟩ : ∃ F, bs (Z.data.toList.set i b') = F := ⟨_, rfl⟩
  rw [hF] at hcv2
  have hFl : F.data.toList = Z.data.toList.set i b' := by rw [← hF]; rfl
  have HF := Lib.hid hFl
  have HNE := Lib.hid hne
  clear hcB hfB hi hb' hne hF hFl
  go_wp2_with fail
  have hb4 : Below w0.heap.size w0 (wB.setCell ⟨w3.heap.size, i, none⟩ (.int .u8 (b'.toNat : Nat))) := bl_set (bl_step (bl_step (bl_step hb hb2) hb3) hbB) (by have := (bl_step (bl_step hb hb2) hb3).size; omega) _
  clear hcv hcv2 hxor hcell hfro hie hwB
  generalize wB.setCell ⟨w3.heap.size, i, none⟩ (.int .u8 (b'.toNat : Nat)) = w4 at *
  refine (open_flip s Z F i b' _ hs HZL.out HZS.out hil HF.out HNE.out).mono ?_
  rintro e w5 ⟨rfl, hb5⟩
  go_wp2_with fail
  refine (open_short ⟨#[97, 98, 99]⟩ _ (by decide)).mono ?_
  rintro e w6 ⟨rfl, rfl⟩
  go_wp2_with fail
  refine (crc_is s x _ (by omega) HX.out).mono ?_
  rintro e w7 ⟨rfl, hb7⟩
  go_wp2_with fail
  refine (checked_is s x _ (by omega) HX.out).mono ?_
  rintro e w8 ⟨rfl, rfl⟩
  go_wp2_with fail
  refine (seal_is s Z _ (by omega) HZL.out).mono ?_
  rintro e w9 ⟨rfl, hb9⟩
  go_wp2_with fail
  refine (awake_true _).mono ?_
  rintro e w10 ⟨rfl, hb10⟩
  go_wp2_with fail
  go_ret
  exact ⟨rfl, bl_step (bl_step (bl_step (bl_step hb4 hb5) hb7) hb9) hb10⟩
end Go.Proofs.Ytoffgcigmpjmbaa
