/- The walk of quiltlaw09.TileSteps. -/
import Derived.Test.YtibcekdnkdkpiaaLawTileStill
import Derived.Laws.BitsAllLaws
namespace Go.Proofs.Ytibcekdnkdkpiaa
open Go.RowKit

theorem tget_xy (t k : Nat) (x y : Int) (w : World) (ht : N64 t) (h : 0 ≤ x ∧ x < 8 ∧ 0 ≤ y ∧ y < 8 ∧ (k : Int) = 8 * y + x) :
    Calls Try.prog 16 #[.int .u64 (t : Nat), .int .i64 x, .int .i64 y] w fun e w' => e = .returned (.tuple #[.bool (t.testBit k), .nilIface]) ∧ w = w' := by
  have h1 := tget_at t k w ht (by omega)
  rw [show (k : Int) % 8 = x by omega, show (k : Int) / 8 = y by omega] at h1
  exact h1

/-- The cells that are far. -/
theorem far_mask : ∀ y, y < 8 → ∀ x, x < 8 → 2 ≤ x → 2 ≤ y → Nat.testBit 217020518514294783 (8 * y + x) = false := by decide +kernel
theorem far_eq (t f : Nat) (ht : N64 t) (hf : N64 f) : ∃ s g : Nat, N64 s ∧ bits .and .u64 (f : Int) 217020518514294783 = ((g : Nat) : Int) ∧ bits .xor .u64 (t : Int) (g : Int) = ((s : Nat) : Int) ∧ ∀ x y, 2 ≤ x → x < 8 → 2 ≤ y → y < 8 → s.testBit (8 * y + x) = t.testBit (8 * y + x) := by
  have hg : f &&& 217020518514294783 < 2 ^ 64 := Nat.and_lt_two_pow _ (by decide)
  have hs : t ^^^ (f &&& 217020518514294783) < 2 ^ 64 := Nat.xor_lt_two_pow ht hg
  refine ⟨t ^^^ (f &&& 217020518514294783), f &&& 217020518514294783, hs, u64_and_nat f 217020518514294783 hf (by decide), u64_xor_nat t _ ht hg, fun x y h1 h2 h3 h4 => ?_⟩
  rw [Nat.testBit_xor, Nat.testBit_and, far_mask y h4 x h2 h1 h3]
  simp

theorem grow_one (b l : Int) (a1 a2 a3 a4 : Nat) (w : World) (hr : May b l) (h1 : N64 a1) (h2 : N64 a2) (h3 : N64 a3) (h4 : N64 a4) :
    Calls Try.prog 15 #[.agg #[.int .u16 b, .int .u16 l], .agg #[.int .u64 a1, .int .u64 a2, .int .u64 a3, .int .u64 a4], .int .i64 1] w fun e w' => e = .returned (.tuple #[.int .u64 (growT b l 1 a1 a2 a3 a4 : Nat), .nilIface]) ∧ Below w.heap.size w w' :=
  grow_ok b l 1 a1 a2 a3 a4 w hr (by omega) h1 h2 h3 h4
theorem grow_zero (b l : Int) (a1 a2 a3 a4 : Nat) (w : World) (hr : May b l) (h1 : N64 a1) (h2 : N64 a2) (h3 : N64 a3) (h4 : N64 a4) :
    Calls Try.prog 15 #[.agg #[.int .u16 b, .int .u16 l], .agg #[.int .u64 a1, .int .u64 a2, .int .u64 a3, .int .u64 a4], .int .i64 0] w fun e w' => e = .returned (.tuple #[.int .u64 (middleT a1 a2 a3 a4 : Nat), .nilIface]) ∧ Below w.heap.size w w' :=
  grow_ok b l 0 a1 a2 a3 a4 w hr (by omega) h1 h2 h3 h4

set_option maxRecDepth 100000 in
set_option maxHeartbeats 4000000 in
theorem tileSteps_walk (b l z0 z1 z2 z3 z4 z5 z6 z7 z8 far : Int) (w1 : (Lit.int .u16 b).wf = true) (w2 : (Lit.int .u16 l).wf = true) (v0 : (Lit.int .u64 z0).wf = true) (v1 : (Lit.int .u64 z1).wf = true) (v2 : (Lit.int .u64 z2).wf = true) (v3 : (Lit.int .u64 z3).wf = true) (v4 : (Lit.int .u64 z4).wf = true) (v5 : (Lit.int .u64 z5).wf = true) (v6 : (Lit.int .u64 z6).wf = true) (v7 : (Lit.int .u64 z7).wf = true) (v8 : (Lit.int .u64 z8).wf = true) (v9 : (Lit.int .u64 far).wf = true) (w : World) :
    Calls Try.prog 5 #[.agg #[.int .u16 b, .int .u16 l], .agg #[.int .u64 z0, .int .u64 z1, .int .u64 z2, .int .u64 z3, .int .u64 z4, .int .u64 z5, .int .u64 z6, .int .u64 z7, .int .u64 z8], .int .u64 far] w fun e w' => e = .returned (.bool true) ∧ Below w.heap.size w w' := by
  obtain ⟨t0, rfl, h0⟩ := U64.nat (t := z0) (wf_u64 v0)
  obtain ⟨t1, rfl, h1⟩ := U64.nat (t := z1) (wf_u64 v1)
  obtain ⟨t2, rfl, h2⟩ := U64.nat (t := z2) (wf_u64 v2)
  obtain ⟨t3, rfl, h3⟩ := U64.nat (t := z3) (wf_u64 v3)
  obtain ⟨t4, rfl, h4⟩ := U64.nat (t := z4) (wf_u64 v4)
  obtain ⟨t5, rfl, h5⟩ := U64.nat (t := z5) (wf_u64 v5)
  obtain ⟨t6, rfl, h6⟩ := U64.nat (t := z6) (wf_u64 v6)
  obtain ⟨t7, rfl, h7⟩ := U64.nat (t := z7) (wf_u64 v7)
  obtain ⟨t8, rfl, h8⟩ := U64.nat (t := z8) (wf_u64 v8)
  obtain ⟨f, rfl, hf⟩ := U64.nat (t := far) (wf_u64 v9)
  have hb : U16 b := wf_u16 w1
  have hl : U16 l := wf_u16 w2
  clear w1 w2 v0 v1 v2 v3 v4 v5 v6 v7 v8 v9
  by_cases hm : May b l
  · have hmt : decide (May b l) = true := decide_eq_true hm
    have e1 : ∀ i, i < 16 → (growT b l 1 t0 t1 t3 t4).testBit (8 * (4 + i / 4) + (4 + i % 4)) = (nextT b l t0 t1 t2 t3 t4 t5 t6 t7 t8).testBit (8 * (i / 4) + i % 4) := fun i hi => grow_next b l t0 t1 t2 t3 t4 t5 t6 t7 t8 i hi
    obtain ⟨s0, g, hs0, eg, es, hfar⟩ := far_eq t0 f h0 hf
    have e2 := grow_far b l t0 s0 t1 t3 t4 hfar
    clear hfar
    have Hm := Lib.hid hm
    have E1 := Lib.hid e1
    have E2 := Lib.hid e2
    clear hm e1 e2
    go_enter Try.func5, Try.ntmps5
    go_wp2_with (first
      | (go_at_call 13; refine (may_any _ _ _ hb hl).mono ?_; rintro e w2 ⟨rfl, hb2⟩; rw [hmt]))
    obtain ⟨q1, q2, hB2, hs2⟩ := two_boxes _ _ _ hb2
    clear hb2 hmt
    have x0 : w2.cell? ⟨w.heap.size + 1, 0, none⟩ = some (.int .u64 (t0 : Nat)) := cell_of_row w2 _ 0 _ _ _ q2
    have x1 : w2.cell? ⟨w.heap.size + 1, 1, none⟩ = some (.int .u64 (t1 : Nat)) := cell_of_row w2 _ 1 _ _ _ q2
    have x2 : w2.cell? ⟨w.heap.size + 1, 2, none⟩ = some (.int .u64 (t2 : Nat)) := cell_of_row w2 _ 2 _ _ _ q2
    have x3 : w2.cell? ⟨w.heap.size + 1, 3, none⟩ = some (.int .u64 (t3 : Nat)) := cell_of_row w2 _ 3 _ _ _ q2
    have x4 : w2.cell? ⟨w.heap.size + 1, 4, none⟩ = some (.int .u64 (t4 : Nat)) := cell_of_row w2 _ 4 _ _ _ q2
    have x5 : w2.cell? ⟨w.heap.size + 1, 5, none⟩ = some (.int .u64 (t5 : Nat)) := cell_of_row w2 _ 5 _ _ _ q2
    have x6 : w2.cell? ⟨w.heap.size + 1, 6, none⟩ = some (.int .u64 (t6 : Nat)) := cell_of_row w2 _ 6 _ _ _ q2
    have x7 : w2.cell? ⟨w.heap.size + 1, 7, none⟩ = some (.int .u64 (t7 : Nat)) := cell_of_row w2 _ 7 _ _ _ q2
    have x8 : w2.cell? ⟨w.heap.size + 1, 8, none⟩ = some (.int .u64 (t8 : Nat)) := cell_of_row w2 _ 8 _ _ _ q2
    have ne : w.heap.size + 1 < w2.heap.size := by omega
    refine wp_loop_rounds 10 ?_
    rw [rounds_succ]
    go_wp2_with fail
    rw [rounds_succ]
    go_wp2_with fail
    rw [rounds_succ]
    go_wp2_with fail
    rw [rounds_succ]
    go_wp2_with fail
    rw [rounds_succ]
    go_wp2_with fail
    rw [rounds_succ]
    go_wp2_with fail
    rw [rounds_succ]
    go_wp2_with fail
    rw [rounds_succ]
    go_wp2_with fail
    rw [rounds_succ]
    go_wp2_with fail
    generalize hW : w2.alloc (Obj.cells #[Value.int .u64 (t0 : Nat), Value.int .u64 (t1 : Nat), Value.int .u64 (t2 : Nat), Value.int .u64 (t3 : Nat), Value.int .u64 (t4 : Nat), Value.int .u64 (t5 : Nat), Value.int .u64 (t6 : Nat), Value.int .u64 (t7 : Nat), Value.int .u64 (t8 : Nat)] 46) = W
    have hB : Below w.heap.size w W := by rw [← hW]; exact hB2.alloc hB2.size _
    have hr : W.heap[w.heap.size]? = some (.cells #[Value.int .u16 b, Value.int .u16 l] 24 (0, 0)) := by
      rw [← hW]; exact (Below.heap_alloc w2 _ _ (by omega)).trans q1
    have hn : W.heap[w2.heap.size]? = some (.cells #[Value.int .u64 (t0 : Nat), Value.int .u64 (t1 : Nat), Value.int .u64 (t2 : Nat), Value.int .u64 (t3 : Nat), Value.int .u64 (t4 : Nat), Value.int .u64 (t5 : Nat), Value.int .u64 (t6 : Nat), Value.int .u64 (t7 : Nat), Value.int .u64 (t8 : Nat)] 46 (0, 0)) := by
      rw [← hW]; exact heap_alloc_new w2 _
    have lr : w.heap.size < W.heap.size := (Array.getElem?_eq_some_iff.1 hr).1
    have ln : w2.heap.size < W.heap.size := (Array.getElem?_eq_some_iff.1 hn).1
    clear hW q1 q2 hB2 hs2 x0 x1 x2 x3 x4 x5 x6 x7 x8 ne
    generalize w2.heap.size = lb at *
    have c0 : W.cell? ⟨lb, 0, none⟩ = some (.int .u64 (t0 : Nat)) := cell_of_row W lb 0 _ _ _ hn; have c1 : W.cell? ⟨lb, 1, none⟩ = some (.int .u64 (t1 : Nat)) := cell_of_row W lb 1 _ _ _ hn; have c3 : W.cell? ⟨lb, 3, none⟩ = some (.int .u64 (t3 : Nat)) := cell_of_row W lb 3 _ _ _ hn; have c4 : W.cell? ⟨lb, 4, none⟩ = some (.int .u64 (t4 : Nat)) := cell_of_row W lb 4 _ _ _ hn
    rw [rounds_succ]
    go_wp2_with (first
      | (with_reducible refine wpList_load_row rfl 24 (.tmp 3) rfl w.heap.size rfl 24 #[Value.int .u16 b, Value.int .u16 l] (0, 0) _ (by assumption) Try.underlying24 rfl (by kernel_rfl) ?_)
      | (with_reducible refine wpList_load_row rfl 46 (.tmp 7) rfl lb rfl 46 #[Value.int .u64 (t0 : Nat), Value.int .u64 (t1 : Nat), Value.int .u64 (t2 : Nat), Value.int .u64 (t3 : Nat), Value.int .u64 (t4 : Nat), Value.int .u64 (t5 : Nat), Value.int .u64 (t6 : Nat), Value.int .u64 (t7 : Nat), Value.int .u64 (t8 : Nat)] (0, 0) _ (by assumption) Try.underlying46 rfl (by kernel_rfl) ?_)
      | (go_at_call 15; (with_reducible refine (grow_one b l t0 t1 t3 t4 _ Hm.out h0 h1 h3 h4).mono ?_); rintro e w3 ⟨rfl, hb3⟩; have hr3 := (hb3.block w.heap.size (by omega)).trans hr; have hn3 := (hb3.block lb (by omega)).trans hn; have sw3 := hb3.size; have d0 : w3.cell? ⟨lb, 0, none⟩ = some (.int .u64 (t0 : Nat)) := cell_of_row w3 lb 0 _ _ _ hn3; have d1 : w3.cell? ⟨lb, 1, none⟩ = some (.int .u64 (t1 : Nat)) := cell_of_row w3 lb 1 _ _ _ hn3; have d3 : w3.cell? ⟨lb, 3, none⟩ = some (.int .u64 (t3 : Nat)) := cell_of_row w3 lb 3 _ _ _ hn3; have d4 : w3.cell? ⟨lb, 4, none⟩ = some (.int .u64 (t4 : Nat)) := cell_of_row w3 lb 4 _ _ _ hn3)
      | (go_at_call 15; (with_reducible refine (grow_zero b l t0 t1 t3 t4 _ Hm.out h0 h1 h3 h4).mono ?_); rintro e w4 ⟨rfl, hb4⟩; have hr4 := (hb4.block w.heap.size (by omega)).trans hr3; have hn4 := (hb4.block lb (by omega)).trans hn3; have sw4 := hb4.size; have e0 : w4.cell? ⟨lb, 0, none⟩ = some (.int .u64 (t0 : Nat)) := cell_of_row w4 lb 0 _ _ _ hn4; have e1 : w4.cell? ⟨lb, 1, none⟩ = some (.int .u64 (t1 : Nat)) := cell_of_row w4 lb 1 _ _ _ hn4; have e3 : w4.cell? ⟨lb, 3, none⟩ = some (.int .u64 (t3 : Nat)) := cell_of_row w4 lb 3 _ _ _ hn4; have e4 : w4.cell? ⟨lb, 4, none⟩ = some (.int .u64 (t4 : Nat)) := cell_of_row w4 lb 4 _ _ _ hn4)
      | (go_at_call 18; (with_reducible refine (tnext_at b l t0 t1 t2 t3 t4 t5 t6 t7 t8 _ Hm.out h0 h1 h2 h3 h4 h5 h6 h7 h8).mono ?_); rintro e w5 ⟨rfl, hb5⟩; have hr5 := (hb5.block w.heap.size (by omega)).trans hr4; have hn5 := (hb5.block lb (by omega)).trans hn4; have sw5 := hb5.size; have f0 : w5.cell? ⟨lb, 0, none⟩ = some (.int .u64 (t0 : Nat)) := cell_of_row w5 lb 0 _ _ _ hn5; have f1 : w5.cell? ⟨lb, 1, none⟩ = some (.int .u64 (t1 : Nat)) := cell_of_row w5 lb 1 _ _ _ hn5; have f3 : w5.cell? ⟨lb, 3, none⟩ = some (.int .u64 (t3 : Nat)) := cell_of_row w5 lb 3 _ _ _ hn5; have f4 : w5.cell? ⟨lb, 4, none⟩ = some (.int .u64 (t4 : Nat)) := cell_of_row w5 lb 4 _ _ _ hn5)
      | (go_at_call 19; (with_reducible refine (middle_any t0 t1 t3 t4 _ h0 h1 h3 h4).mono ?_); rintro e w6 ⟨rfl, hb6⟩; have hr6 := (hb6.block w.heap.size (by omega)).trans hr5; have hn6 := (hb6.block lb (by omega)).trans hn5; have sw6 := hb6.size; have k0 : w6.cell? ⟨lb, 0, none⟩ = some (.int .u64 (t0 : Nat)) := cell_of_row w6 lb 0 _ _ _ hn6; have k1 : w6.cell? ⟨lb, 1, none⟩ = some (.int .u64 (t1 : Nat)) := cell_of_row w6 lb 1 _ _ _ hn6; have k3 : w6.cell? ⟨lb, 3, none⟩ = some (.int .u64 (t3 : Nat)) := cell_of_row w6 lb 3 _ _ _ hn6; have k4 : w6.cell? ⟨lb, 4, none⟩ = some (.int .u64 (t4 : Nat)) := cell_of_row w6 lb 4 _ _ _ hn6))
    have hB6 : Below w.heap.size w w6 := hB.trans (((hb3.trans (hb4.mono sw3)).trans ((hb5.trans (hb6.mono sw5)).mono (by omega))).mono hB.size)
    have l6 := hB6.size
    have lr6 : w.heap.size < w6.heap.size := by omega
    have ln6 : lb < w6.heap.size := by omega
    have HA := growT_n64 b l 1 t0 t1 t3 t4
    have HM := nextT_n64 b l t0 t1 t2 t3 t4 t5 t6 t7 t8
    clear hb3 hb4 hb5 hb6 hr hr3 hr4 hr5 hn hn3 hn4 hn5 sw3 sw4 sw5 sw6 hB lr ln c0 c1 c3 c4 d0 d1 d3 d4 e0 e1 e3 e4 f0 f1 f3 f4
    generalize growT b l 1 t0 t1 t3 t4 = GA at *
    generalize nextT b l t0 t1 t2 t3 t4 t5 t6 t7 t8 = GM at *
    go_loop [15, 16, 17, 18, 19] (fun i _ _ _ _ => ∃ k : Nat, k ≤ 16 ∧ i = .int .i64 (k : Nat)) (fun i _ _ _ _ => 16 - (intOf i).toNat)
    case atStart => exact ⟨0, Nat.zero_le _, rfl⟩
    case round =>
      obtain ⟨k, hk, rfl⟩ := hrel
      by_cases hlt : k < 16
      · have hbit := E1.out k hlt
        cases hq : GM.testBit (8 * (k / 4) + k % 4)
        all_goals
          rw [hq] at hbit
          have P := Lib.hid hbit
          have Q := Lib.hid hq
          clear hbit hq
          go_wp2_with fail
          refine (tget_xy GA (8 * (4 + k / 4) + (4 + k % 4)) _ _ _ HA (by omega)).mono ?_; rintro e w' ⟨rfl, rfl⟩
          rw [P.out]
          go_wp2_with fail
          refine (tget_xy GM (8 * (k / 4) + k % 4) _ _ _ HM (by omega)).mono ?_; rintro e w' ⟨rfl, rfl⟩
          rw [Q.out]
          go_wp2_with fail
          go_round
          case rel => exact ⟨k + 1, by omega, by go_num⟩
          case measure => simp [intOf]; omega
      · skip
        go_wp2_with (first
          | (with_reducible refine wpList_load_row rfl 24 (.tmp 3) rfl w.heap.size rfl 24 #[Value.int .u16 b, Value.int .u16 l] (0, 0) _ (by assumption) Try.underlying24 rfl (by kernel_rfl) ?_)
          | (go_at_call 15; (with_reducible refine (grow_one b l s0 t1 t3 t4 _ Hm.out hs0 h1 h3 h4).mono ?_); rintro e w7 ⟨rfl, hb7⟩; rw [E2.out])
          | (go_at_call 14; refine (sure09 _).mono ?_; rintro e w8 ⟨rfl, hb8⟩))
        go_ret
        exact ⟨rfl, hB6.trans ((hb7.trans (hb8.mono hb7.size)).mono l6)⟩
  · have hmt : decide (May b l) = false := decide_eq_false hm
    clear hm
    go_enter Try.func5, Try.ntmps5
    go_wp2_with (first
      | (go_at_call 13; refine (may_any _ _ _ hb hl).mono ?_; rintro e w2 ⟨rfl, hb2⟩; rw [hmt])
      | (go_at_call 14; refine (sure09 _).mono ?_; rintro e w3 ⟨rfl, hb3⟩))
    go_ret
    obtain ⟨_, _, hB2, hs2⟩ := two_boxes _ _ _ hb2
    exact ⟨rfl, hB2.trans (hb3.mono hB2.size)⟩
end Go.Proofs.Ytibcekdnkdkpiaa
