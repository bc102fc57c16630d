/- Contracts of package tile: Grow's errors; nine tiles, and the middle one of them one generation on. -/
import Derived.Test.YtibcekdnkdkpiaaTileG
namespace Go.Proofs.Ytibcekdnkdkpiaa
open Go.RowKit

set_option maxHeartbeats 1000000 in
theorem grow_rule (b l n a1 a2 a3 a4 : Int) (w : World) (hb : U16 b) (hl : U16 l) (hr : ¬ May b l) :
    Calls Try.prog 15 #[.agg #[.int .u16 b, .int .u16 l], .agg #[.int .u64 a1, .int .u64 a2, .int .u64 a3, .int .u64 a4], .int .i64 n] w fun e w' => e = .returned (.tuple #[.int .u64 0, errv 11]) ∧ Below w.heap.size w w' := by
  go_enter Try.func15, Try.ntmps15
  go_wp2_with (go_at_call 28; refine (check_bad _ _ _ hb hl hr).mono ?_; rintro e w1 ⟨rfl, hb1⟩; obtain ⟨q1, q2, hB1, hs1⟩ := two_boxes _ _ _ hb1; obtain ⟨hc1, hf1⟩ := bcell hb1; unfold errv)
  go_ret2
  exact ⟨rfl, hB1⟩

set_option maxHeartbeats 1000000 in
theorem grow_arg (b l n a1 a2 a3 a4 : Int) (w : World) (hr : May b l) (hn : n < 0 ∨ 4 < n) :
    Calls Try.prog 15 #[.agg #[.int .u16 b, .int .u16 l], .agg #[.int .u64 a1, .int .u64 a2, .int .u64 a3, .int .u64 a4], .int .i64 n] w fun e w' => e = .returned (.tuple #[.int .u64 0, errv 1]) ∧ Below w.heap.size w w' := by
  rcases hn with hn | hn
  · go_enter Try.func15, Try.ntmps15
    go_wp2_with (go_at_call 28; refine (check_ok _ _ _ hr).mono ?_; rintro e w1 ⟨rfl, hb1⟩; obtain ⟨q1, q2, hB1, hs1⟩ := two_boxes _ _ _ hb1; obtain ⟨hc1, hf1⟩ := bcell hb1)
    go_ret2
    exact ⟨rfl, hB1⟩
  · have hn' : ¬ n < 0 := by omega
    go_enter Try.func15, Try.ntmps15
    go_wp2_with (go_at_call 28; refine (check_ok _ _ _ hr).mono ?_; rintro e w1 ⟨rfl, hb1⟩; obtain ⟨q1, q2, hB1, hs1⟩ := two_boxes _ _ _ hb1; obtain ⟨hc1, hf1⟩ := bcell hb1)
    go_ret2
    exact ⟨rfl, hB1⟩

/-- The field of nine tiles. -/
def nineF (t0 t1 t2 t3 t4 t5 t6 t7 t8 : Nat) : Nat → Nat := layF t8 16 16 (layF t7 8 16 (layF t6 0 16 (layF t5 16 8 (layF t4 8 8 (layF t3 0 8 (layF t2 16 0 (layF t1 8 0 (layF t0 0 0 zeroF))))))))

set_option maxRecDepth 100000 in
set_option maxHeartbeats 4000000 in
theorem tnext_ok (b l : Int) (t0 t1 t2 t3 t4 t5 t6 t7 t8 : Nat) (w : World) (hr : May b l) (h0 : N64 t0) (h1 : N64 t1) (h2 : N64 t2) (h3 : N64 t3) (h4 : N64 t4) (h5 : N64 t5) (h6 : N64 t6) (h7 : N64 t7) (h8 : N64 t8) :
    Calls Try.prog 18 #[.agg #[.int .u16 b, .int .u16 l], .agg #[.int .u64 t0, .int .u64 t1, .int .u64 t2, .int .u64 t3, .int .u64 t4, .int .u64 t5, .int .u64 t6, .int .u64 t7, .int .u64 t8]] w fun e w' => e = .returned (.tuple #[.int .u64 (mk (cutBit (nupto (nineF t0 t1 t2 t3 t4 t5 t6 t7 t8) b l 22 0) 8 8) 64 : Nat), .nilIface]) ∧ Below w.heap.size w w' := by
  have i0 : ∀ w, (Instr.index 46 (.agg #[.int .u64 t0, .int .u64 t1, .int .u64 t2, .int .u64 t3, .int .u64 t4, .int .u64 t5, .int .u64 t6, .int .u64 t7, .int .u64 t8]) (.int .i64 0)).run Try.prog w = .ok (.int .u64 t0) w := fun _ => by kernel_rfl
  have i1 : ∀ w, (Instr.index 46 (.agg #[.int .u64 t0, .int .u64 t1, .int .u64 t2, .int .u64 t3, .int .u64 t4, .int .u64 t5, .int .u64 t6, .int .u64 t7, .int .u64 t8]) (.int .i64 1)).run Try.prog w = .ok (.int .u64 t1) w := fun _ => by kernel_rfl
  have i2 : ∀ w, (Instr.index 46 (.agg #[.int .u64 t0, .int .u64 t1, .int .u64 t2, .int .u64 t3, .int .u64 t4, .int .u64 t5, .int .u64 t6, .int .u64 t7, .int .u64 t8]) (.int .i64 2)).run Try.prog w = .ok (.int .u64 t2) w := fun _ => by kernel_rfl
  have i3 : ∀ w, (Instr.index 46 (.agg #[.int .u64 t0, .int .u64 t1, .int .u64 t2, .int .u64 t3, .int .u64 t4, .int .u64 t5, .int .u64 t6, .int .u64 t7, .int .u64 t8]) (.int .i64 3)).run Try.prog w = .ok (.int .u64 t3) w := fun _ => by kernel_rfl
  have i4 : ∀ w, (Instr.index 46 (.agg #[.int .u64 t0, .int .u64 t1, .int .u64 t2, .int .u64 t3, .int .u64 t4, .int .u64 t5, .int .u64 t6, .int .u64 t7, .int .u64 t8]) (.int .i64 4)).run Try.prog w = .ok (.int .u64 t4) w := fun _ => by kernel_rfl
  have i5 : ∀ w, (Instr.index 46 (.agg #[.int .u64 t0, .int .u64 t1, .int .u64 t2, .int .u64 t3, .int .u64 t4, .int .u64 t5, .int .u64 t6, .int .u64 t7, .int .u64 t8]) (.int .i64 5)).run Try.prog w = .ok (.int .u64 t5) w := fun _ => by kernel_rfl
  have i6 : ∀ w, (Instr.index 46 (.agg #[.int .u64 t0, .int .u64 t1, .int .u64 t2, .int .u64 t3, .int .u64 t4, .int .u64 t5, .int .u64 t6, .int .u64 t7, .int .u64 t8]) (.int .i64 6)).run Try.prog w = .ok (.int .u64 t6) w := fun _ => by kernel_rfl
  have i7 : ∀ w, (Instr.index 46 (.agg #[.int .u64 t0, .int .u64 t1, .int .u64 t2, .int .u64 t3, .int .u64 t4, .int .u64 t5, .int .u64 t6, .int .u64 t7, .int .u64 t8]) (.int .i64 7)).run Try.prog w = .ok (.int .u64 t7) w := fun _ => by kernel_rfl
  have i8 : ∀ w, (Instr.index 46 (.agg #[.int .u64 t0, .int .u64 t1, .int .u64 t2, .int .u64 t3, .int .u64 t4, .int .u64 t5, .int .u64 t6, .int .u64 t7, .int .u64 t8]) (.int .i64 8)).run Try.prog w = .ok (.int .u64 t8) w := fun _ => by kernel_rfl
  go_enter Try.func18, Try.ntmps18
  go_wp2_with (first
    | (go_at_call 28; refine (check_ok _ _ _ hr).mono ?_; rintro e w1 ⟨rfl, hb1⟩; obtain ⟨q1, q2, hB1, hs1⟩ := two_boxes _ _ _ hb1; obtain ⟨hc1, hf1⟩ := bcell hb1)
    | (with_reducible refine wpList_load_row rfl 46 (.tmp 3) rfl (w.heap.size + 1) rfl 46 #[Value.int .u64 (t0 : Int), Value.int .u64 (t1 : Int), Value.int .u64 (t2 : Int), Value.int .u64 (t3 : Int), Value.int .u64 (t4 : Int), Value.int .u64 (t5 : Int), Value.int .u64 (t6 : Int), Value.int .u64 (t7 : Int), Value.int .u64 (t8 : Int)] (0, 0) _ ((Below.heap_alloc w1 _ _ (by omega)).trans q2) Try.underlying46 rfl (by kernel_rfl) ?_))
  go_name_world W0 hW0
  have hB2 : Below w.heap.size w W0 := by rw [← hW0]; exact hB1.alloc hB1.size _
  have f0 : IsF W0 w1.heap.size zeroF := by rw [← hW0]; exact heap_alloc_new w1 _
  have hR : W0.heap[w.heap.size]? = some (.cells #[Value.int IntKind.u16 b, Value.int IntKind.u16 l] 39 (0, 0)) := by
    rw [← hW0]; exact (Below.heap_alloc w1 _ _ (by omega)).trans q1
  have hlt : w.heap.size < w1.heap.size := by omega
  clear hW0 hb1 hc1 hf1 q1 q2 hB1 hs1
  generalize w1.heap.size = fb at *
  have hl0 := f0.lt
  refine wp_loop_rounds 10 ?_
  rw [rounds_succ]
  go_wp2_with (go_at_call 33; refine (lay_any t0 0 0 _ _ _ h0 (by decide) (by decide) f0 zeroF_lt).mono ?_; rintro e w2 ⟨rfl, f1, g1⟩)
  have l1 : ∀ j, layF t0 0 0 zeroF j < 4294967296 := layF_lt _ _ _ (by omega) _ zeroF_lt
  generalize hF1 : layF t0 0 0 zeroF = F1 at f1 l1
  rw [rounds_succ]
  go_wp2_with (go_at_call 33; refine (lay_any t1 8 0 _ _ _ h1 (by decide) (by decide) f1 l1).mono ?_; rintro e w3 ⟨rfl, f2, g2⟩)
  have l2 : ∀ j, layF t1 8 0 F1 j < 4294967296 := layF_lt _ _ _ (by omega) _ l1
  generalize hF2 : layF t1 8 0 F1 = F2 at f2 l2
  rw [rounds_succ]
  go_wp2_with (go_at_call 33; refine (lay_any t2 16 0 _ _ _ h2 (by decide) (by decide) f2 l2).mono ?_; rintro e w4 ⟨rfl, f3, g3⟩)
  have l3 : ∀ j, layF t2 16 0 F2 j < 4294967296 := layF_lt _ _ _ (by omega) _ l2
  generalize hF3 : layF t2 16 0 F2 = F3 at f3 l3
  rw [rounds_succ]
  go_wp2_with (go_at_call 33; refine (lay_any t3 0 8 _ _ _ h3 (by decide) (by decide) f3 l3).mono ?_; rintro e w5 ⟨rfl, f4, g4⟩)
  have l4 : ∀ j, layF t3 0 8 F3 j < 4294967296 := layF_lt _ _ _ (by omega) _ l3
  generalize hF4 : layF t3 0 8 F3 = F4 at f4 l4
  rw [rounds_succ]
  go_wp2_with (go_at_call 33; refine (lay_any t4 8 8 _ _ _ h4 (by decide) (by decide) f4 l4).mono ?_; rintro e w6 ⟨rfl, f5, g5⟩)
  have l5 : ∀ j, layF t4 8 8 F4 j < 4294967296 := layF_lt _ _ _ (by omega) _ l4
  generalize hF5 : layF t4 8 8 F4 = F5 at f5 l5
  rw [rounds_succ]
  go_wp2_with (go_at_call 33; refine (lay_any t5 16 8 _ _ _ h5 (by decide) (by decide) f5 l5).mono ?_; rintro e w7 ⟨rfl, f6, g6⟩)
  have l6 : ∀ j, layF t5 16 8 F5 j < 4294967296 := layF_lt _ _ _ (by omega) _ l5
  generalize hF6 : layF t5 16 8 F5 = F6 at f6 l6
  rw [rounds_succ]
  go_wp2_with (go_at_call 33; refine (lay_any t6 0 16 _ _ _ h6 (by decide) (by decide) f6 l6).mono ?_; rintro e w8 ⟨rfl, f7, g7⟩)
  have l7 : ∀ j, layF t6 0 16 F6 j < 4294967296 := layF_lt _ _ _ (by omega) _ l6
  generalize hF7 : layF t6 0 16 F6 = F7 at f7 l7
  rw [rounds_succ]
  go_wp2_with (go_at_call 33; refine (lay_any t7 8 16 _ _ _ h7 (by decide) (by decide) f7 l7).mono ?_; rintro e w9 ⟨rfl, f8, g8⟩)
  have l8 : ∀ j, layF t7 8 16 F7 j < 4294967296 := layF_lt _ _ _ (by omega) _ l7
  generalize hF8 : layF t7 8 16 F7 = F8 at f8 l8
  rw [rounds_succ]
  go_wp2_with (go_at_call 33; refine (lay_any t8 16 16 _ _ _ h8 (by decide) (by decide) f8 l8).mono ?_; rintro e w10 ⟨rfl, f9, g9⟩)
  have l9 : ∀ j, layF t8 16 16 F8 j < 4294967296 := layF_lt _ _ _ (by omega) _ l8
  generalize hF9 : layF t8 16 16 F8 = F9 at f9 l9
  have hG := (((((((((World.grownBy.refl W0 (some fb)).trans g1).trans g2).trans g3).trans g4).trans g5).trans g6).trans g7).trans g8).trans g9
  have hF : F9 = nineF t0 t1 t2 t3 t4 t5 t6 t7 t8 := by rw [← hF9, ← hF8, ← hF7, ← hF6, ← hF5, ← hF4, ← hF3, ← hF2, ← hF1]; rfl
  subst hF
  have hFb : w10.heap[w.heap.size]? = some (.cells #[Value.int IntKind.u16 b, Value.int IntKind.u16 l] 39 (0, 0)) := by rw [hG.block _ (by omega) (by simp; omega)]; exact hR
  have k0 := cell_of_row w10 w.heap.size 0 _ _ _ hFb
  have k1 := cell_of_row w10 w.heap.size 1 _ _ _ hFb
  simp only [List.getElem?_toArray, List.getElem?_cons_zero, List.getElem?_cons_succ] at k0 k1
  have hB10 : Below w.heap.size w w10 := hB2.grown hG hB2.size (fun j e => by cases e; omega)
  have H9 := Lib.hid l9
  clear hFb hG hR l1 l2 l3 l4 l5 l6 l7 l8 l9 f0 f1 f2 f3 f4 f5 f6 f7 f8 g1 g2 g3 g4 g5 g6 g7 g8 g9 hB2 i0 i1 i2 i3 i4 i5 i6 i7 i8 hF1 hF2 hF3 hF4 hF5 hF6 hF7 hF8 hF9
  rw [rounds_succ]
  go_wp2_with (first
    | (go_at_call 30; refine (next_any b l fb _ _ hr f9 H9.out).mono ?_; rintro e w11 ⟨rfl, hb11⟩)
    | (with_reducible refine wpList_store_row rfl 66 (.tmp 10) (.tmp 31) rfl w11.heap.size rfl 66 _ (fcells (nupto (nineF t0 t1 t2 t3 t4 t5 t6 t7 t8) b l 22 0)) (heap_alloc_new w11 _) rfl (by rw [fcells_size]; kernel_rfl) (by rw [fcells_size]; kernel_rfl) (fcells_one _) ?_)
    | (go_at_call 31; refine (cut_any 8 8 _ _ _ (by decide) (by decide) (setRow_heap _ _ _ _ _ _ (heap_alloc_new w11 _)) (nupto_lt _ _ _ _ _ (by omega))).mono ?_; rintro e w12 ⟨rfl, rfl⟩))
  go_ret2
  have hx := hB10.trans (hb11.mono hB10.size)
  exact ⟨rfl, below_setRow' (hx.alloc hx.size _) hx.size _⟩
end Go.Proofs.Ytibcekdnkdkpiaa
