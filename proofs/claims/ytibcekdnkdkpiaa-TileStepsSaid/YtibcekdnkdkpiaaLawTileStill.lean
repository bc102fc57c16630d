/- The walk of quiltlaw09.TileStill. -/
import Derived.Test.YtibcekdnkdkpiaaLawTileTurned
namespace Go.Proofs.Ytibcekdnkdkpiaa
open Go.RowKit

theorem three_eq (n : Int) : ∃ x : Int, 4 ≤ x ∧ x ≤ 6 ∧ wrap64 (4 + wrap64 ((IntKind.u64.wrap n).tmod 3)) = x := by
  have h0 : 0 ≤ IntKind.u64.wrap n := by simp [IntKind.wrap, IntKind.bits, IntKind.signed]; omega
  rw [Int.tmod_eq_emod_of_nonneg h0]
  generalize IntKind.u64.wrap n = m at h0
  refine ⟨_, ?_, ?_, rfl⟩ <;> (unfold wrap64; omega)
theorem three_eq' (n : Int) : ∃ x : Int, 4 ≤ x ∧ x ≤ 6 ∧ wrap64 (4 + wrap64 ((IntKind.u64.wrap ((IntKind.u64.wrap n).tdiv 3)).tmod 3)) = x := by
  have h1 : 0 ≤ IntKind.u64.wrap ((IntKind.u64.wrap n).tdiv 3) := wrap_u64_nonneg _
  rw [Int.tmod_eq_emod_of_nonneg h1]
  generalize IntKind.u64.wrap ((IntKind.u64.wrap n).tdiv 3) = m at h1
  refine ⟨_, ?_, ?_, rfl⟩ <;> (unfold wrap64; omega)

theorem tset_xy (t k : Nat) (x y : Int) (b : Bool) (w : World) (ht : N64 t) (h : 0 ≤ x ∧ x < 8 ∧ 0 ≤ y ∧ y < 8 ∧ (k : Int) = 8 * y + x) :
    Calls Try.prog 17 #[.int .u64 (t : Nat), .int .i64 x, .int .i64 y, .bool b] w fun e w' => e = .returned (.tuple #[.int .u64 (setN t k b : Nat), .nilIface]) ∧ w = w' := by
  have h1 := tset_at t k b w ht (by omega)
  rw [show (k : Int) % 8 = x by omega, show (k : Int) / 8 = y by omega] at h1
  exact h1

theorem tnext_at (b l : Int) (t0 t1 t2 t3 t4 t5 t6 t7 t8 : Nat) (w : World) (hr : May b l) (h0 : N64 t0) (h1 : N64 t1) (h2 : N64 t2) (h3 : N64 t3) (h4 : N64 t4) (h5 : N64 t5) (h6 : N64 t6) (h7 : N64 t7) (h8 : N64 t8) :
    Calls Try.prog 18 #[.agg #[.int .u16 b, .int .u16 l], .agg #[.int .u64 t0, .int .u64 t1, .int .u64 t2, .int .u64 t3, .int .u64 t4, .int .u64 t5, .int .u64 t6, .int .u64 t7, .int .u64 t8]] w fun e w' => e = .returned (.tuple #[.int .u64 (nextT b l t0 t1 t2 t3 t4 t5 t6 t7 t8 : Nat), .nilIface]) ∧ Below w.heap.size w w' :=
  tnext_ok b l t0 t1 t2 t3 t4 t5 t6 t7 t8 w hr h0 h1 h2 h3 h4 h5 h6 h7 h8
def kxy (x y : Int) : Nat := (8 * y + x).toNat
/-- A block of four cells. -/
def blk4 (x y : Int) : Nat := setN (setN (setN (setN 0 (kxy x y) true) (kxy (x + 1) y) true) (kxy x (y + 1)) true) (kxy (x + 1) (y + 1)) true

theorem still_rows : ∀ x, x < 3 → ∀ y, y < 3 → ∀ r, r < 24 → nupto (fourF (blk4 (4 + (x : Nat)) (4 + (y : Nat))) 0 0 0) 8 12 22 0 r = fourF (blk4 (4 + (x : Nat)) (4 + (y : Nat))) 0 0 0 r := by decide +kernel
theorem still_cut : ∀ x, x < 3 → ∀ y, y < 3 → mk (cutBit (fourF (blk4 (4 + (x : Nat)) (4 + (y : Nat))) 0 0 0) 4 4) 64 = blk4 (x : Nat) (y : Nat) := by decide +kernel
theorem still_gen (F : Nat → Nat) (h : ∀ r, r < 24 → nupto F 8 12 22 0 r = F r) (h2 : ∀ r, 24 ≤ r → F r = 0) : ∀ n, genF 8 12 n F = F
  | 0 => rfl
  | n + 1 => by
    show nupto (genF 8 12 n F) 8 12 22 0 = F
    rw [still_gen F h h2 n]
    funext r
    by_cases hr : r < 24
    · exact h r hr
    · rw [h2 r (by omega)]; unfold nupto; rw [if_pos (by omega)]
theorem still_grow (x y : Int) (k : Nat) (h1 : 4 ≤ x) (h2 : x ≤ 6) (h3 : 4 ≤ y) (h4 : y ≤ 6) : growT 8 12 k (blk4 x y) 0 0 0 = blk4 (x - 4) (y - 4) := by
  obtain ⟨a, rfl⟩ : ∃ a : Nat, x = 4 + (a : Nat) := ⟨(x - 4).toNat, by omega⟩
  obtain ⟨c, rfl⟩ : ∃ c : Nat, y = 4 + (c : Nat) := ⟨(y - 4).toNat, by omega⟩
  unfold growT
  rw [still_gen _ (fun r hr => still_rows a (by omega) c (by omega) r hr) (fun r hr => ?_), still_cut a (by omega) c (by omega)]
  · rw [show (4 : Int) + (a : Nat) - 4 = (a : Nat) by omega, show (4 : Int) + (c : Nat) - 4 = (c : Nat) by omega]
  · refine Nat.eq_of_testBit_eq fun i => ?_
    rw [fourF_bit]
    unfold four4
    rw [if_neg (by omega)]
    simp [show ¬ r < 16 by omega]

set_option maxRecDepth 100000 in
set_option maxHeartbeats 4000000 in
theorem tileStill_walk (b l n at' : Int) (w1 : (Lit.int .u16 b).wf = true) (w2 : (Lit.int .u16 l).wf = true) (_w3 : (Lit.int .i64 n).wf = true) (_w4 : (Lit.int .i64 at').wf = true) (w : World) :
    Calls Try.prog 6 #[.agg #[.int .u16 b, .int .u16 l], .int .i64 n, .int .i64 at'] w fun e w' => e = .returned (.bool true) ∧ Below w.heap.size w w' := by
  have hb : U16 b := wf_u16 w1
  have hl : U16 l := wf_u16 w2
  clear w1 w2 _w3 _w4
  obtain ⟨k, hk, hk5⟩ := five_eq n
  obtain ⟨x, hx4, hx6, hx⟩ := three_eq at'
  obtain ⟨y, hy4, hy6, hy⟩ := three_eq' at'
  have z : N64 0 := by unfold N64; omega
  by_cases hm : May b l
  case' pos =>
    have hmt : decide (May b l) = true := decide_eq_true hm
    have e1 := growT_none b l k hm
    have e2 := nextT_none b l hm
    have Hm := Lib.hid hm
    clear hm
    go_enter Try.func6, Try.ntmps6
    go_wp2_with (first
      | (go_at_call 13; refine (may_any _ _ _ hb hl).mono ?_; rintro e w2 ⟨rfl, hb2⟩; rw [hmt]; have hs2 := hb2.size; rw [World.size_alloc] at hs2; have hr2 := (hb2.block w.heap.size (by rw [World.size_alloc]; omega)).trans (heap_alloc_new w _))
      | (with_reducible refine wpList_load_row rfl 24 (.tmp 3) rfl w.heap.size rfl 24 #[Value.int .u16 b, Value.int .u16 l] (0, 0) _ (by assumption) Try.underlying24 rfl (by kernel_rfl) ?_)
      | (go_at_call 15; refine (grow_ok b l k 0 0 0 0 _ Hm.out hk z z z z).mono ?_; rintro e w3 ⟨rfl, hb3⟩; rw [e1]; have hr3 := (hb3.block w.heap.size (by omega)).trans hr2; have hs3 := hb3.size)
      | (go_at_call 18; refine (tnext_at b l 0 0 0 0 0 0 0 0 0 _ Hm.out z z z z z z z z z).mono ?_; rintro e w4 ⟨rfl, hb4⟩; rw [e2]))
    have g4 : Below w.heap.size w w4 := below_box _ (hb2.trans ((hb3.trans (hb4.mono hs3)).mono (by rw [World.size_alloc]; omega)))
    clear hb2 hb3 hb4 hr2 hr3 hs2 hs3 e1 e2 Hm hmt hk5
    have l4 := g4.size
  case' neg =>
    have hmt : decide (May b l) = false := decide_eq_false hm
    clear hm
    go_enter Try.func6, Try.ntmps6
    go_wp2_with (first
      | (go_at_call 13; refine (may_any _ _ _ hb hl).mono ?_; rintro e w4 ⟨rfl, hb2⟩; rw [hmt]))
    have g4 : Below w.heap.size w w4 := below_box _ hb2
    clear hb2 hmt hk5
    have l4 := g4.size
  all_goals
    rw [hx, hy]
    clear hx hy
    refine wp_loop_rounds 5 ?_
    rw [rounds_succ]
    go_wp2_with (go_at_call 17; refine (tset_xy 0 (kxy (x - 4) (y - 4)) _ _ true _ z (by simp only [wrap64, kxy]; omega)).mono ?_; rintro e w5 ⟨rfl, rfl⟩)
    rw [rounds_succ]
    go_wp2_with (go_at_call 17; refine (tset_xy _ (kxy (x - 4 + 1) (y - 4)) _ _ true _ (setN_n64 ..) (by simp only [wrap64, kxy]; omega)).mono ?_; rintro e w5 ⟨rfl, rfl⟩)
    rw [rounds_succ]
    go_wp2_with (go_at_call 17; refine (tset_xy _ (kxy (x - 4) (y - 4 + 1)) _ _ true _ (setN_n64 ..) (by simp only [wrap64, kxy]; omega)).mono ?_; rintro e w5 ⟨rfl, rfl⟩)
    rw [rounds_succ]
    go_wp2_with (go_at_call 17; refine (tset_xy _ (kxy (x - 4 + 1) (y - 4 + 1)) _ _ true _ (setN_n64 ..) (by simp only [wrap64, kxy]; omega)).mono ?_; rintro e w5 ⟨rfl, rfl⟩)
    have hbx : setN (setN (setN (setN 0 (kxy (x - 4) (y - 4)) true) (kxy (x - 4 + 1) (y - 4)) true) (kxy (x - 4) (y - 4 + 1)) true) (kxy (x - 4 + 1) (y - 4 + 1)) true = blk4 (x - 4) (y - 4) := rfl
    rw [hbx]
    clear hbx
    rw [rounds_succ]
    go_wp2_with fail
    have a1 : wrap64 x = x := by unfold wrap64; omega
    have a2 : wrap64 y = y := by unfold wrap64; omega
    have a3 : wrap64 (x + 1) = x + 1 := by unfold wrap64; omega
    have a4 : wrap64 (y + 1) = y + 1 := by unfold wrap64; omega
    have d1 : x.tdiv 8 = 0 := by rw [Int.tdiv_eq_ediv_of_nonneg (by omega)]; omega
    have d2 : y.tdiv 8 = 0 := by rw [Int.tdiv_eq_ediv_of_nonneg (by omega)]; omega
    have d3 : (x + 1).tdiv 8 = 0 := by rw [Int.tdiv_eq_ediv_of_nonneg (by omega)]; omega
    have d4 : (y + 1).tdiv 8 = 0 := by rw [Int.tdiv_eq_ediv_of_nonneg (by omega)]; omega
    have m1 : x.tmod 8 = x := by rw [Int.tmod_eq_emod_of_nonneg (by omega)]; omega
    have m2 : y.tmod 8 = y := by rw [Int.tmod_eq_emod_of_nonneg (by omega)]; omega
    have m3 : (x + 1).tmod 8 = x + 1 := by rw [Int.tmod_eq_emod_of_nonneg (by omega)]; omega
    have m4 : (y + 1).tmod 8 = y + 1 := by rw [Int.tmod_eq_emod_of_nonneg (by omega)]; omega
    refine wp_loop_rounds 5 ?_
    rw [rounds_succ]
    go_wp2_with (go_at_call 17; refine (tset_xy _ (kxy x y) _ _ true _ z (by simp only [wrap64, kxy]; omega)).mono ?_; rintro e w5 ⟨rfl, rfl⟩)
    rw [rounds_succ]
    go_wp2_with (go_at_call 17; refine (tset_xy _ (kxy (x + 1) y) _ _ true _ (setN_n64 ..) (by simp only [wrap64, kxy]; omega)).mono ?_; rintro e w5 ⟨rfl, rfl⟩)
    rw [rounds_succ]
    go_wp2_with (go_at_call 17; refine (tset_xy _ (kxy x (y + 1)) _ _ true _ (setN_n64 ..) (by simp only [wrap64, kxy]; omega)).mono ?_; rintro e w5 ⟨rfl, rfl⟩)
    rw [rounds_succ]
    go_wp2_with (go_at_call 17; refine (tset_xy _ (kxy (x + 1) (y + 1)) _ _ true _ (setN_n64 ..) (by simp only [wrap64, kxy]; omega)).mono ?_; rintro e w5 ⟨rfl, rfl⟩)
    have hbx : setN (setN (setN (setN 0 (kxy x y) true) (kxy (x + 1) y) true) (kxy x (y + 1)) true) (kxy (x + 1) (y + 1)) true = blk4 x y := rfl
    rw [hbx]
    clear hbx
    rw [rounds_succ]
    have hg := still_grow x y k hx4 hx6 hy4 hy6
    have hbn : N64 (blk4 x y) := setN_n64 ..
    have hmay : May 8 12 := by decide
    generalize blk4 x y = B at *
    go_wp2_with (first
      | (go_at_call 15; refine (grow_ok 8 12 k B 0 0 0 _ hmay hk hbn z z z).mono ?_; rintro e w6 ⟨rfl, hb6⟩; rw [hg])
      | (go_at_call 14; refine (sure09 _).mono ?_; rintro e w7 ⟨rfl, hb7⟩))
    go_ret
    exact ⟨rfl, g4.trans (((below_box _ hb6).trans (hb7.mono (by have := hb6.size; rw [World.size_alloc] at this; omega))).mono l4)⟩
end Go.Proofs.Ytibcekdnkdkpiaa
