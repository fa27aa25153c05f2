/- 'awake' returns true. -/
import Derived.Test.YtoffgcigmpjmbaaRows
import Derived.Test.YtoffgcigmpjmbaaKit
namespace Go.Proofs.Ytoffgcigmpjmbaa
open Go.RowKit
set_option maxHeartbeats 400000 in
theorem unsigned_64 (w : World) :
    Calls Try.prog 169 #[.int .u64 64, .int .i64 8] w fun e w' => e = .returned (.string ⟨#[49, 48, 48]⟩) ∧ w' = w := by
  go_enter Try.func169, Try.ntmps169
  go_wp2
  refine wp_loop_rounds 4 ?_
  rw [rounds_succ]
  go_wp2
  rw [rounds_succ]
  go_wp2
  rw [rounds_succ]
  go_wp2
  go_ret
  exact ⟨ret_str (by decide), rfl⟩
theorem known_8 (w : World) :
    Calls Try.prog 168 #[.int .i64 8] w fun e w' => e = .returned (.bool true) ∧ w' = w := by
  go_enter Try.func168, Try.ntmps168
  go_wp2
  go_ret
  exact ⟨rfl, rfl⟩
set_option maxHeartbeats 400000 in
theorem format_64 (w : World) :
    Calls Try.prog 109 #[.int .i64 64, .int .i64 8] w fun e w' => e = .returned (.string ⟨#[49, 48, 48]⟩) ∧ w' = w := by
  go_enter Try.func109, Try.ntmps109
  go_wp2_with (first | (go_at_call 168; refine (known_8 _).mono ?_; rintro e w' ⟨rfl, rfl⟩) | (go_at_call 169; refine (unsigned_64 _).mono ?_; rintro e w' ⟨rfl, rfl⟩))
  go_ret
  exact ⟨rfl, rfl⟩
theorem pipe_new (w : World) :
    Calls Try.prog 106 #[] w fun e w' => e = .returned (.agg #[.string ⟨#[]⟩, .int .i64 1, .int .i64 1]) ∧ Below w.heap.size w w' := by
  go_enter Try.func106, Try.ntmps106
  go_wp2
  exact bodyPost_ret (v := .agg #[.string ⟨#[]⟩, .int .i64 1, .int .i64 1]) (by simp [results, Try.results106, go_sem]) rfl ⟨rfl, (Below.refl _ _).alloc (Nat.le_refl _) _⟩
set_option maxHeartbeats 1000000 in
theorem pipe_write (w : World) :
    Calls Try.prog 105 #[.agg #[.string ⟨#[]⟩, .int .i64 1, .int .i64 1], .string ⟨#[97, 98, 99]⟩] w fun e w' => e = .returned (.tuple #[.agg #[.string ⟨#[97, 98, 99]⟩, .int .i64 1, .int .i64 1], .int .i64 3, .int .i64 0]) ∧ Below w.heap.size w w' := by
  go_enter Try.func105, Try.ntmps105
  go_wp2
  go_region
  go_wp2
  exact bodyPost_ret (v := .tuple #[.agg #[.string ⟨#[97, 98, 99]⟩, .int .i64 1, .int .i64 1], .int .i64 3, .int .i64 0]) (by simp [results, Try.results105, go_sem]; decide) rfl ⟨rfl, (((Below.refl _ _).alloc (Nat.le_refl _) _).alloc (by simp) _).drew⟩
set_option maxHeartbeats 1000000 in
theorem pipe_read (w : World) :
    Calls Try.prog 107 #[.agg #[.string ⟨#[97, 98, 99]⟩, .int .i64 1, .int .i64 1], .int .i64 2] w fun e w' => e = .returned (.tuple #[.agg #[.string ⟨#[99]⟩, .int .i64 1, .int .i64 1], .string ⟨#[97, 98]⟩, .int .i64 0]) ∧ Below w.heap.size w w' := by
  go_enter Try.func107, Try.ntmps107
  go_wp2
  exact bodyPost_ret (v := .tuple #[.agg #[.string ⟨#[99]⟩, .int .i64 1, .int .i64 1], .string ⟨#[97, 98]⟩, .int .i64 0]) (by simp [results, Try.results107, go_sem]; exact ⟨by decide, by decide⟩) rfl ⟨rfl, ((Below.refl _ _).alloc (Nat.le_refl _) _).alloc (by simp) _⟩
theorem hd178 : ∃ d, Try.prog.underlying 178 = some d ∧ d.isRow = true := ⟨_, Try.underlying178, rfl⟩
theorem hi178 : (Try.prog.info? 178).map (·.size) = some Try.zeroCells178.size := by rw [Try.zeroCells178_size]; kernel_rfl
theorem one178 : Try.zeroCells178.all (·.oneCell') = true := by kernel_rfl
set_option maxHeartbeats 1000000 in
set_option maxRecDepth 100000 in
theorem translate_0 (w : World) :
    Calls Try.prog 108 #[.agg Try.zeroCells178, .int .i64 1, .int .i64 57344, .bool false] w fun e w' => e = .returned (.tuple #[.int .i64 253952, .agg Try.zeroCells178, .int .i64 0]) ∧ Below w.heap.size w w' := by
  have hz0 : Try.zeroCells178[0]'(by rw [Try.zeroCells178_size]; decide) = Value.bool false := by kernel_rfl
  have hb : bits BinOp.and IntKind.i64 57344 65535 = 57344 := by kernel_rfl
  obtain ⟨d, hu, hd⟩ := hd178
  have HU := Lib.hid hu
  have HD := Lib.hid hd
  clear hu hd
  go_enter Try.func108, Try.ntmps108
  go_wp2
  clear hb hz0
  have h1 : (((w.alloc (Obj.cells Try.zeroCells178 178)).alloc (Obj.cells Try.zeroCells178 178)).drew).heap[w.heap.size + 1]? = some (.cells Try.zeroCells178 178 (0, 0)) := by
    have := heap_alloc_last (w.alloc (Obj.cells Try.zeroCells178 178)) (Obj.cells Try.zeroCells178 178)
    rw [World.size_alloc] at this
    exact this
  refine region_still_tail 3 (by kernel_rfl) (by kernel_rfl) ?_
  simp only [List.take_succ_cons, List.take_zero, List.drop_succ_cons, List.drop_zero]
  still_step
  refine wpStill_load_row rfl 178 (.tmp 4) rfl w.heap.size rfl 178 Try.zeroCells178 (0, 0) d ?_ HU.out HD.out hi178 ?_
  · exact (Below.heap_alloc _ _ _ (by simp)).trans (heap_alloc_last _ _)
  still_step
  refine wpStill_nil ?_
  refine wpList_store_row rfl 178 (.tmp 9) (.tmp 24) rfl (w.heap.size + 1) Try.zeroCells178 rfl rfl 178 Try.zeroCells178 ?_ hi178 rfl one178 ?_
  · exact h1
  have h2 := setRow_self _ _ _ 178 (0, 0) h1
  rw [h2]
  clear h2
  go_wp2
  exact bodyPost_ret (v := .tuple #[.int .i64 253952, .agg Try.zeroCells178, .int .i64 0]) (by
    simp [results, Try.results108, asAddr, run_loadVar_row (P := Try.prog) _ (w.heap.size + 1) 178 178 Try.zeroCells178 (0, 0) d h1 HU.out (by have := HD.out; cases d <;> simp_all) hi178]) rfl ⟨rfl, (bl_alloc (bl_alloc (Below.refl _ _) _) _).drew⟩

set_option maxHeartbeats 1000000 in
set_option maxRecDepth 100000 in
theorem awake_true (w : World) :
    Calls Try.prog 23 #[] w fun e w' => e = .returned (.bool true) ∧ Below w.heap.size w w' := by
  go_enter Try.func23, Try.ntmps23
  go_wp2_with fail
  refine (pipe_new _).mono ?_
  rintro e w1 ⟨rfl, hb1⟩
  go_wp2_with fail
  refine (pipe_write _).mono ?_
  rintro e w2 ⟨rfl, hb2⟩
  go_wp2_with fail
  refine (pipe_read _).mono ?_
  rintro e w3 ⟨rfl, hb3⟩
  go_wp2_with fail
  refine (translate_0 _).mono ?_
  rintro e w4 ⟨rfl, hb4⟩
  have hlt : w3.heap.size < w4.heap.size := by have := hb4.size; simp only [World.size_alloc] at this; omega
  have hcell : w4.cell? ⟨w3.heap.size, 0, none⟩ = some (.string ⟨#[99]⟩) := by
    rw [hb4.cell (p := ⟨w3.heap.size, 0, none⟩) (by simp), World.cell?_alloc_new]; rfl
  go_wp2_with (first | (refine wpList_store_row rfl 178 (.tmp 8) (.tmp 26) rfl w4.heap.size Try.zeroCells178 rfl rfl 178 Try.zeroCells178 (heap_alloc_last _ _) hi178 rfl one178 ?_; rw [World.setRow_alloc_new]) | (go_at_call 109; refine (format_64 _).mono ?_; rintro e w' ⟨rfl, rfl⟩))
  go_ret
  exact ⟨rfl, bl_alloc (bl_step (bl_alloc (bl_step (bl_alloc (bl_step hb1 hb2) _) hb3) _) hb4) _⟩
end Go.Proofs.Ytoffgcigmpjmbaa
