/- The walk of quiltlaw11.QuadCells (printed by gen_qcells.py). -/
import Derived.Test.YtmabgfdibbidcaaStepsB
import Derived.Test.YtmabgfdibbidcaaLawQuadCounts
namespace Go.Proofs.Ytmabgfdibbidcaa
open Go.RowKit

set_option maxRecDepth 100000 in
set_option maxHeartbeats 2000000 in
theorem quadCells_walk (z0 z1 z2 z3 x y : Int) (v0 : (Lit.int .u64 z0).wf = true) (v1 : (Lit.int .u64 z1).wf = true) (v2 : (Lit.int .u64 z2).wf = true) (v3 : (Lit.int .u64 z3).wf = true) (_w8 : (Lit.int .i64 x).wf = true) (_w9 : (Lit.int .i64 y).wf = true) (w : World) :
    Calls Try.prog 4 #[.agg #[.int .u64 z0, .int .u64 z1, .int .u64 z2, .int .u64 z3], .int .i64 x, .int .i64 y] w fun e w' => e = .returned (.bool true) ∧ Below w.heap.size w w' := by
  obtain ⟨t0, rfl, h0⟩ : ∃ t : Nat, z0 = (t : Int) ∧ t < 18446744073709551616 := ⟨z0.toNat, by have := wf_u64 v0; omega, by have := wf_u64 v0; omega⟩
  obtain ⟨t1, rfl, h1⟩ : ∃ t : Nat, z1 = (t : Int) ∧ t < 18446744073709551616 := ⟨z1.toNat, by have := wf_u64 v1; omega, by have := wf_u64 v1; omega⟩
  obtain ⟨t2, rfl, h2⟩ : ∃ t : Nat, z2 = (t : Int) ∧ t < 18446744073709551616 := ⟨z2.toNat, by have := wf_u64 v2; omega, by have := wf_u64 v2; omega⟩
  obtain ⟨t3, rfl, h3⟩ : ∃ t : Nat, z3 = (t : Int) ∧ t < 18446744073709551616 := ⟨z3.toNat, by have := wf_u64 v3; omega, by have := wf_u64 v3; omega⟩
  clear v0 v1 v2 v3
  have HT := Lib.hid (And.intro h0 (And.intro h1 (And.intro h2 h3)))
  clear h0 h1 h2 h3
  have e0 := errv_zero
  have HB := Lib.hid ((Held.start w).box (.cells #[.int .u64 (t0 : Nat), .int .u64 (t1 : Nat), .int .u64 (t2 : Nat), .int .u64 (t3 : Nat)] 23 (0, 0)))
  have HN := fun W => Lib.hid (new_st W 100 (by omega) (by omega))
  go_enter Try.func4, Try.ntmps4
  go_wp2_with (go_at_call 14; refine (HN _).out.mono ?_; rintro e w1 ⟨rfl, hs1, hb1, hz1⟩; have H1a := HB.out.new hs1 hb1; simp only [World.size_alloc] at H1a; have H1 := Lib.hid H1a; simp only [World.size_alloc] at hz1; have Hz1 := Lib.hid hz1; clear hs1 hb1 hz1 H1a)
  have N0 := Lib.hid ((H1.out.box (.cells #[.int .i64 0, .int .i64 0, .int .i64 0, .int .i64 0] 29 (0, 0))))
  generalize hW0 : w1.alloc (.cells #[.int .i64 0, .int .i64 0, .int .i64 0, .int .i64 0] 29) = W0 at *
  have y0 : ([] : List Sq).length ≤ 0 := Nat.le_refl _
  have kne := Lib.hid (show w.heap.size ≠ w1.heap.size by have := Hz1.out; omega)
  refine wp_loop_rounds 5 ?_
  rw [rounds_succ]
  have c0 : W0.cell? ⟨w.heap.size, 0, none⟩ = some (.int .u64 (t0 : Nat)) := cell_of_row _ _ 0 _ _ _ N0.out.b1
  go_wp2_with (go_at_call 15; refine (leaf_step N0.out t0 (HT.out.1) (by omega)).mono ?_; rintro e x0 ⟨L1, i0, F1, rfl, D⟩; have D0 := Lib.hid D; clear D; have k0 : x0.cell? ⟨w1.heap.size, 0, none⟩ = some (.int .i64 0) := cell_of_row _ _ 0 _ _ _ D0.out.held.b0; have f0 : x0.frozen? ⟨w1.heap.size, 0, none⟩ = false := frozen_of_row _ _ _ _ _ D0.out.held.b0)
  have N1 := Lib.hid (D0.out.held.setCell (by intro c hc; simp at hc; subst hc; exact kne.out) 0 (.int .i64 (i0 : Nat)))
  generalize hW1 : x0.setCell ⟨w1.heap.size, 0, none⟩ (.int .i64 (i0 : Nat)) = W1 at *
  have y1 : L1.length ≤ 1 := by have := D0.out.len; omega
  clear hW1 c0 k0 f0 y0
  rw [rounds_succ]
  have c1 : W1.cell? ⟨w.heap.size, 1, none⟩ = some (.int .u64 (t1 : Nat)) := cell_of_row _ _ 1 _ _ _ N1.out.b1
  go_wp2_with (go_at_call 15; refine (leaf_step N1.out t1 (HT.out.2.1) (by omega)).mono ?_; rintro e x1 ⟨L2, i1, F2, rfl, D⟩; have D1 := Lib.hid D; clear D; have k1 : x1.cell? ⟨w1.heap.size, 1, none⟩ = some (.int .i64 0) := cell_of_row _ _ 1 _ _ _ D1.out.held.b0; have f1 : x1.frozen? ⟨w1.heap.size, 1, none⟩ = false := frozen_of_row _ _ _ _ _ D1.out.held.b0)
  have N2 := Lib.hid (D1.out.held.setCell (by intro c hc; simp at hc; subst hc; exact kne.out) 1 (.int .i64 (i1 : Nat)))
  generalize hW2 : x1.setCell ⟨w1.heap.size, 1, none⟩ (.int .i64 (i1 : Nat)) = W2 at *
  have y2 : L2.length ≤ 2 := by have := D1.out.len; omega
  clear hW2 c1 k1 f1 y1
  rw [rounds_succ]
  have c2 : W2.cell? ⟨w.heap.size, 2, none⟩ = some (.int .u64 (t2 : Nat)) := cell_of_row _ _ 2 _ _ _ N2.out.b1
  go_wp2_with (go_at_call 15; refine (leaf_step N2.out t2 (HT.out.2.2.1) (by omega)).mono ?_; rintro e x2 ⟨L3, i2, F3, rfl, D⟩; have D2 := Lib.hid D; clear D; have k2 : x2.cell? ⟨w1.heap.size, 2, none⟩ = some (.int .i64 0) := cell_of_row _ _ 2 _ _ _ D2.out.held.b0; have f2 : x2.frozen? ⟨w1.heap.size, 2, none⟩ = false := frozen_of_row _ _ _ _ _ D2.out.held.b0)
  have N3 := Lib.hid (D2.out.held.setCell (by intro c hc; simp at hc; subst hc; exact kne.out) 2 (.int .i64 (i2 : Nat)))
  generalize hW3 : x2.setCell ⟨w1.heap.size, 2, none⟩ (.int .i64 (i2 : Nat)) = W3 at *
  have y3 : L3.length ≤ 3 := by have := D2.out.len; omega
  clear hW3 c2 k2 f2 y2
  rw [rounds_succ]
  have c3 : W3.cell? ⟨w.heap.size, 3, none⟩ = some (.int .u64 (t3 : Nat)) := cell_of_row _ _ 3 _ _ _ N3.out.b1
  go_wp2_with (go_at_call 15; refine (leaf_step N3.out t3 (HT.out.2.2.2) (by omega)).mono ?_; rintro e x3 ⟨L4, i3, F4, rfl, D⟩; have D3 := Lib.hid D; clear D; have k3 : x3.cell? ⟨w1.heap.size, 3, none⟩ = some (.int .i64 0) := cell_of_row _ _ 3 _ _ _ D3.out.held.b0; have f3 : x3.frozen? ⟨w1.heap.size, 3, none⟩ = false := frozen_of_row _ _ _ _ _ D3.out.held.b0)
  have N4 := Lib.hid (D3.out.held.setCell (by intro c hc; simp at hc; subst hc; exact kne.out) 3 (.int .i64 (i3 : Nat)))
  generalize hW4 : x3.setCell ⟨w1.heap.size, 3, none⟩ (.int .i64 (i3 : Nat)) = W4 at *
  have y4 : L4.length ≤ 4 := by have := D3.out.len; omega
  clear hW4 c3 k3 f3 y3
  rw [rounds_succ]
  have a0 := Lib.hid (D3.out.ext.at (D2.out.ext.at (D1.out.ext.at D0.out.sq)))
  have a1 := Lib.hid (D3.out.ext.at (D2.out.ext.at D1.out.sq))
  have a2 := Lib.hid (D3.out.ext.at D2.out.sq)
  have a3 := Lib.hid D3.out.sq
  clear D0 D1 D2 D3
  have r0 : W4.cell? ⟨w1.heap.size, 0, none⟩ = some (.int .i64 (i0 : Nat)) := cell_of_row _ _ 0 _ _ _ N4.out.b0
  have r1 : W4.cell? ⟨w1.heap.size, 1, none⟩ = some (.int .i64 (i1 : Nat)) := cell_of_row _ _ 1 _ _ _ N4.out.b0
  have r2 : W4.cell? ⟨w1.heap.size, 2, none⟩ = some (.int .i64 (i2 : Nat)) := cell_of_row _ _ 2 _ _ _ N4.out.b0
  have r3 : W4.cell? ⟨w1.heap.size, 3, none⟩ = some (.int .i64 (i3 : Nat)) := cell_of_row _ _ 3 _ _ _ N4.out.b0
  go_upto_region 13 with (first
    | (go_at_call 18; refine (node_step (m := 3) N4.out a0.out a1.out a2.out a3.out rfl rfl rfl rfl (by omega) (by omega)).mono ?_; rintro e u4 ⟨L5, j4, F5, rfl, D⟩; have D4 := Lib.hid D; clear D r0 r1 r2 r3
       have b0 := Lib.hid (D4.out.ext.at a0.out); have b1 := Lib.hid (D4.out.ext.at a1.out); have b2 := Lib.hid (D4.out.ext.at a2.out); have b3 := Lib.hid (D4.out.ext.at a3.out); clear a0 a1 a2 a3
       have r0 : u4.cell? ⟨w1.heap.size, 0, none⟩ = some (.int .i64 (i0 : Nat)) := cell_of_row _ _ 0 _ _ _ D4.out.held.b0
       have r1 : u4.cell? ⟨w1.heap.size, 1, none⟩ = some (.int .i64 (i1 : Nat)) := cell_of_row _ _ 1 _ _ _ D4.out.held.b0
       have r2 : u4.cell? ⟨w1.heap.size, 2, none⟩ = some (.int .i64 (i2 : Nat)) := cell_of_row _ _ 2 _ _ _ D4.out.held.b0
       have r3 : u4.cell? ⟨w1.heap.size, 3, none⟩ = some (.int .i64 (i3 : Nat)) := cell_of_row _ _ 3 _ _ _ D4.out.held.b0)
    | fail)
  go_upto_region 14 with (first
    | (go_at_call 18; refine (node_again (m := 3) D4.out.held b0.out b1.out b2.out b3.out rfl rfl rfl rfl (by omega) D4.out.sq).mono ?_; rintro e u5 ⟨F6, rfl, HH⟩; have A5 := Lib.hid HH; clear HH r0 r1 r2 r3))
  have y5 : L5.length ≤ 5 := by have := D4.out.len; omega
  go_upto_region 15 with fail
  obtain ⟨px, hpx, hmx⟩ := mod_16 x
  obtain ⟨py, hpy, hmy⟩ := mod_16 y
  rw [hmx, hmy]
  clear hmx hmy
  have P := Lib.hid (And.intro hpx hpy)
  have qx : ((px : Nat) : Int).tdiv 8 = ((px / 8 : Nat) : Int) := by rw [Int.tdiv_eq_ediv_of_nonneg (by omega)]; rfl
  have qy : ((py : Nat) : Int).tdiv 8 = ((py / 8 : Nat) : Int) := by rw [Int.tdiv_eq_ediv_of_nonneg (by omega)]; rfl
  have mx : ((px : Nat) : Int).tmod 8 = ((px % 8 : Nat) : Int) := by rw [Int.tmod_eq_emod_of_nonneg (by omega)]; rfl
  have my : ((py : Nat) : Int).tmod 8 = ((py % 8 : Nat) : Int) := by rw [Int.tmod_eq_emod_of_nonneg (by omega)]; rfl
  rcases lt_two (show px / 8 < 2 by omega) with ex | ex <;> rcases lt_two (show py / 8 < 2 by omega) with ey | ey <;> rw [ex] at qx <;> rw [ey] at qy
  · have hb := four_cell (px := px) (py := py) D4.out.sq 0 (by omega) b0.out
    obtain ⟨b, hbb⟩ : ∃ b, b = t0.testBit (8 * (py % 8) + px % 8) := ⟨_, rfl⟩
    rw [← hbb] at hb
    have G1 := get_step (n := 1) A5.out D4.out.sq rfl px py hpx hpy
    have TG := fun W => tget_nat t0 (px % 8) (py % 8) W (HT.out.1) (by omega) (by omega)
    rw [← hbb] at TG
    rw [hb] at G1
    have G1h := Lib.hid G1
    have TGh := Lib.hid TG
    have HBb := Lib.hid hb
    clear G1 TG hbb hb ex ey hpx hpy
    rcases b with _ | _
    · go_wp2_with (first
        | (go_at_call 20; refine G1h.out.mono ?_; rintro e u6 ⟨rfl, HH⟩; have A6 := Lib.hid HH; clear HH G1h; have cl : u6.cell? ⟨w.heap.size, 0, none⟩ = some (.int .u64 (t0 : Nat)) := cell_of_row _ _ 0 _ _ _ A6.out.b1)
        | (go_at_call 21; refine (TGh.out _).mono ?_; rintro e u ⟨rfl, rfl⟩; clear cl)
        | (go_at_call 22; refine (set_step (n := 1) A6.out D4.out.sq rfl px py true P.out.1 P.out.2 (by omega)).mono ?_; rintro e u7 ⟨L7, j7, F7, q7, rfl, D, hl7, hc7, _⟩; have D7 := Lib.hid D; clear D
           have hv : alv L7 1 j7 px py = true := by rw [hc7 px py P.out.1 P.out.2, if_pos ⟨rfl, rfl⟩]
           have G2 := get_step (n := 1) D7.out.held D7.out.sq hl7 px py P.out.1 P.out.2; rw [hv] at G2; have G2h := Lib.hid G2
           have hn1 : ¬ j7 = j4 := turned_ne D4.out.wf D7.out.ext D4.out.sq rfl hv HBb.out
           have hne : ¬ ((j7 : Nat) : Int) = ((j4 : Nat) : Int) := fun hh => hn1 (Int.ofNat.inj hh)
           have hn2 : (((j7 : Nat) : Int) == ((j4 : Nat) : Int)) = false := beq_eq_false_iff_ne.2 hne
           have hn3 : (((j7 : Nat) : Int) != ((j4 : Nat) : Int)) = true := bne_iff_ne.2 hne
           clear G2 hv hc7 hl7)
        | (go_at_call 20; refine G2h.out.mono ?_; rintro e u8 ⟨rfl, HH⟩; have A8 := Lib.hid HH; clear HH G2h)
        | (go_at_call 19; refine (sure11 _).mono ?_; rintro e u9 ⟨rfl, hb9⟩))
      go_ret
      exact ⟨rfl, A8.out.keep.trans (hb9.mono A8.out.keep.size)⟩
    · go_wp2_with (first
        | (go_at_call 20; refine G1h.out.mono ?_; rintro e u6 ⟨rfl, HH⟩; have A6 := Lib.hid HH; clear HH G1h; have cl : u6.cell? ⟨w.heap.size, 0, none⟩ = some (.int .u64 (t0 : Nat)) := cell_of_row _ _ 0 _ _ _ A6.out.b1)
        | (go_at_call 21; refine (TGh.out _).mono ?_; rintro e u ⟨rfl, rfl⟩; clear cl)
        | (go_at_call 22; refine (set_step (n := 1) A6.out D4.out.sq rfl px py false P.out.1 P.out.2 (by omega)).mono ?_; rintro e u7 ⟨L7, j7, F7, q7, rfl, D, hl7, hc7, _⟩; have D7 := Lib.hid D; clear D
           have hv : alv L7 1 j7 px py = false := by rw [hc7 px py P.out.1 P.out.2, if_pos ⟨rfl, rfl⟩]
           have G2 := get_step (n := 1) D7.out.held D7.out.sq hl7 px py P.out.1 P.out.2; rw [hv] at G2; have G2h := Lib.hid G2
           have hn1 : ¬ j7 = j4 := turned_ne D4.out.wf D7.out.ext D4.out.sq rfl hv HBb.out
           have hne : ¬ ((j7 : Nat) : Int) = ((j4 : Nat) : Int) := fun hh => hn1 (Int.ofNat.inj hh)
           have hn2 : (((j7 : Nat) : Int) == ((j4 : Nat) : Int)) = false := beq_eq_false_iff_ne.2 hne
           have hn3 : (((j7 : Nat) : Int) != ((j4 : Nat) : Int)) = true := bne_iff_ne.2 hne
           clear G2 hv hc7 hl7)
        | (go_at_call 20; refine G2h.out.mono ?_; rintro e u8 ⟨rfl, HH⟩; have A8 := Lib.hid HH; clear HH G2h)
        | (go_at_call 19; refine (sure11 _).mono ?_; rintro e u9 ⟨rfl, hb9⟩))
      go_ret
      exact ⟨rfl, A8.out.keep.trans (hb9.mono A8.out.keep.size)⟩
  · have hb := four_cell (px := px) (py := py) D4.out.sq 2 (by omega) b2.out
    obtain ⟨b, hbb⟩ : ∃ b, b = t2.testBit (8 * (py % 8) + px % 8) := ⟨_, rfl⟩
    rw [← hbb] at hb
    have G1 := get_step (n := 1) A5.out D4.out.sq rfl px py hpx hpy
    have TG := fun W => tget_nat t2 (px % 8) (py % 8) W (HT.out.2.2.1) (by omega) (by omega)
    rw [← hbb] at TG
    rw [hb] at G1
    have G1h := Lib.hid G1
    have TGh := Lib.hid TG
    have HBb := Lib.hid hb
    clear G1 TG hbb hb ex ey hpx hpy
    rcases b with _ | _
    · go_wp2_with (first
        | (go_at_call 20; refine G1h.out.mono ?_; rintro e u6 ⟨rfl, HH⟩; have A6 := Lib.hid HH; clear HH G1h; have cl : u6.cell? ⟨w.heap.size, 2, none⟩ = some (.int .u64 (t2 : Nat)) := cell_of_row _ _ 2 _ _ _ A6.out.b1)
        | (go_at_call 21; refine (TGh.out _).mono ?_; rintro e u ⟨rfl, rfl⟩; clear cl)
        | (go_at_call 22; refine (set_step (n := 1) A6.out D4.out.sq rfl px py true P.out.1 P.out.2 (by omega)).mono ?_; rintro e u7 ⟨L7, j7, F7, q7, rfl, D, hl7, hc7, _⟩; have D7 := Lib.hid D; clear D
           have hv : alv L7 1 j7 px py = true := by rw [hc7 px py P.out.1 P.out.2, if_pos ⟨rfl, rfl⟩]
           have G2 := get_step (n := 1) D7.out.held D7.out.sq hl7 px py P.out.1 P.out.2; rw [hv] at G2; have G2h := Lib.hid G2
           have hn1 : ¬ j7 = j4 := turned_ne D4.out.wf D7.out.ext D4.out.sq rfl hv HBb.out
           have hne : ¬ ((j7 : Nat) : Int) = ((j4 : Nat) : Int) := fun hh => hn1 (Int.ofNat.inj hh)
           have hn2 : (((j7 : Nat) : Int) == ((j4 : Nat) : Int)) = false := beq_eq_false_iff_ne.2 hne
           have hn3 : (((j7 : Nat) : Int) != ((j4 : Nat) : Int)) = true := bne_iff_ne.2 hne
           clear G2 hv hc7 hl7)
        | (go_at_call 20; refine G2h.out.mono ?_; rintro e u8 ⟨rfl, HH⟩; have A8 := Lib.hid HH; clear HH G2h)
        | (go_at_call 19; refine (sure11 _).mono ?_; rintro e u9 ⟨rfl, hb9⟩))
      go_ret
      exact ⟨rfl, A8.out.keep.trans (hb9.mono A8.out.keep.size)⟩
    · go_wp2_with (first
        | (go_at_call 20; refine G1h.out.mono ?_; rintro e u6 ⟨rfl, HH⟩; have A6 := Lib.hid HH; clear HH G1h; have cl : u6.cell? ⟨w.heap.size, 2, none⟩ = some (.int .u64 (t2 : Nat)) := cell_of_row _ _ 2 _ _ _ A6.out.b1)
        | (go_at_call 21; refine (TGh.out _).mono ?_; rintro e u ⟨rfl, rfl⟩; clear cl)
        | (go_at_call 22; refine (set_step (n := 1) A6.out D4.out.sq rfl px py false P.out.1 P.out.2 (by omega)).mono ?_; rintro e u7 ⟨L7, j7, F7, q7, rfl, D, hl7, hc7, _⟩; have D7 := Lib.hid D; clear D
           have hv : alv L7 1 j7 px py = false := by rw [hc7 px py P.out.1 P.out.2, if_pos ⟨rfl, rfl⟩]
           have G2 := get_step (n := 1) D7.out.held D7.out.sq hl7 px py P.out.1 P.out.2; rw [hv] at G2; have G2h := Lib.hid G2
           have hn1 : ¬ j7 = j4 := turned_ne D4.out.wf D7.out.ext D4.out.sq rfl hv HBb.out
           have hne : ¬ ((j7 : Nat) : Int) = ((j4 : Nat) : Int) := fun hh => hn1 (Int.ofNat.inj hh)
           have hn2 : (((j7 : Nat) : Int) == ((j4 : Nat) : Int)) = false := beq_eq_false_iff_ne.2 hne
           have hn3 : (((j7 : Nat) : Int) != ((j4 : Nat) : Int)) = true := bne_iff_ne.2 hne
           clear G2 hv hc7 hl7)
        | (go_at_call 20; refine G2h.out.mono ?_; rintro e u8 ⟨rfl, HH⟩; have A8 := Lib.hid HH; clear HH G2h)
        | (go_at_call 19; refine (sure11 _).mono ?_; rintro e u9 ⟨rfl, hb9⟩))
      go_ret
      exact ⟨rfl, A8.out.keep.trans (hb9.mono A8.out.keep.size)⟩
  · have hb := four_cell (px := px) (py := py) D4.out.sq 1 (by omega) b1.out
    obtain ⟨b, hbb⟩ : ∃ b, b = t1.testBit (8 * (py % 8) + px % 8) := ⟨_, rfl⟩
    rw [← hbb] at hb
    have G1 := get_step (n := 1) A5.out D4.out.sq rfl px py hpx hpy
    have TG := fun W => tget_nat t1 (px % 8) (py % 8) W (HT.out.2.1) (by omega) (by omega)
    rw [← hbb] at TG
    rw [hb] at G1
    have G1h := Lib.hid G1
    have TGh := Lib.hid TG
    have HBb := Lib.hid hb
    clear G1 TG hbb hb ex ey hpx hpy
    rcases b with _ | _
    · go_wp2_with (first
        | (go_at_call 20; refine G1h.out.mono ?_; rintro e u6 ⟨rfl, HH⟩; have A6 := Lib.hid HH; clear HH G1h; have cl : u6.cell? ⟨w.heap.size, 1, none⟩ = some (.int .u64 (t1 : Nat)) := cell_of_row _ _ 1 _ _ _ A6.out.b1)
        | (go_at_call 21; refine (TGh.out _).mono ?_; rintro e u ⟨rfl, rfl⟩; clear cl)
        | (go_at_call 22; refine (set_step (n := 1) A6.out D4.out.sq rfl px py true P.out.1 P.out.2 (by omega)).mono ?_; rintro e u7 ⟨L7, j7, F7, q7, rfl, D, hl7, hc7, _⟩; have D7 := Lib.hid D; clear D
           have hv : alv L7 1 j7 px py = true := by rw [hc7 px py P.out.1 P.out.2, if_pos ⟨rfl, rfl⟩]
           have G2 := get_step (n := 1) D7.out.held D7.out.sq hl7 px py P.out.1 P.out.2; rw [hv] at G2; have G2h := Lib.hid G2
           have hn1 : ¬ j7 = j4 := turned_ne D4.out.wf D7.out.ext D4.out.sq rfl hv HBb.out
           have hne : ¬ ((j7 : Nat) : Int) = ((j4 : Nat) : Int) := fun hh => hn1 (Int.ofNat.inj hh)
           have hn2 : (((j7 : Nat) : Int) == ((j4 : Nat) : Int)) = false := beq_eq_false_iff_ne.2 hne
           have hn3 : (((j7 : Nat) : Int) != ((j4 : Nat) : Int)) = true := bne_iff_ne.2 hne
           clear G2 hv hc7 hl7)
        | (go_at_call 20; refine G2h.out.mono ?_; rintro e u8 ⟨rfl, HH⟩; have A8 := Lib.hid HH; clear HH G2h)
        | (go_at_call 19; refine (sure11 _).mono ?_; rintro e u9 ⟨rfl, hb9⟩))
      go_ret
      exact ⟨rfl, A8.out.keep.trans (hb9.mono A8.out.keep.size)⟩
    · go_wp2_with (first
        | (go_at_call 20; refine G1h.out.mono ?_; rintro e u6 ⟨rfl, HH⟩; have A6 := Lib.hid HH; clear HH G1h; have cl : u6.cell? ⟨w.heap.size, 1, none⟩ = some (.int .u64 (t1 : Nat)) := cell_of_row _ _ 1 _ _ _ A6.out.b1)
        | (go_at_call 21; refine (TGh.out _).mono ?_; rintro e u ⟨rfl, rfl⟩; clear cl)
        | (go_at_call 22; refine (set_step (n := 1) A6.out D4.out.sq rfl px py false P.out.1 P.out.2 (by omega)).mono ?_; rintro e u7 ⟨L7, j7, F7, q7, rfl, D, hl7, hc7, _⟩; have D7 := Lib.hid D; clear D
           have hv : alv L7 1 j7 px py = false := by rw [hc7 px py P.out.1 P.out.2, if_pos ⟨rfl, rfl⟩]
           have G2 := get_step (n := 1) D7.out.held D7.out.sq hl7 px py P.out.1 P.out.2; rw [hv] at G2; have G2h := Lib.hid G2
           have hn1 : ¬ j7 = j4 := turned_ne D4.out.wf D7.out.ext D4.out.sq rfl hv HBb.out
           have hne : ¬ ((j7 : Nat) : Int) = ((j4 : Nat) : Int) := fun hh => hn1 (Int.ofNat.inj hh)
           have hn2 : (((j7 : Nat) : Int) == ((j4 : Nat) : Int)) = false := beq_eq_false_iff_ne.2 hne
           have hn3 : (((j7 : Nat) : Int) != ((j4 : Nat) : Int)) = true := bne_iff_ne.2 hne
           clear G2 hv hc7 hl7)
        | (go_at_call 20; refine G2h.out.mono ?_; rintro e u8 ⟨rfl, HH⟩; have A8 := Lib.hid HH; clear HH G2h)
        | (go_at_call 19; refine (sure11 _).mono ?_; rintro e u9 ⟨rfl, hb9⟩))
      go_ret
      exact ⟨rfl, A8.out.keep.trans (hb9.mono A8.out.keep.size)⟩
  · have hb := four_cell (px := px) (py := py) D4.out.sq 3 (by omega) b3.out
    obtain ⟨b, hbb⟩ : ∃ b, b = t3.testBit (8 * (py % 8) + px % 8) := ⟨_, rfl⟩
    rw [← hbb] at hb
    have G1 := get_step (n := 1) A5.out D4.out.sq rfl px py hpx hpy
    have TG := fun W => tget_nat t3 (px % 8) (py % 8) W (HT.out.2.2.2) (by omega) (by omega)
    rw [← hbb] at TG
    rw [hb] at G1
    have G1h := Lib.hid G1
    have TGh := Lib.hid TG
    have HBb := Lib.hid hb
    clear G1 TG hbb hb ex ey hpx hpy
    rcases b with _ | _
    · go_wp2_with (first
        | (go_at_call 20; refine G1h.out.mono ?_; rintro e u6 ⟨rfl, HH⟩; have A6 := Lib.hid HH; clear HH G1h; have cl : u6.cell? ⟨w.heap.size, 3, none⟩ = some (.int .u64 (t3 : Nat)) := cell_of_row _ _ 3 _ _ _ A6.out.b1)
        | (go_at_call 21; refine (TGh.out _).mono ?_; rintro e u ⟨rfl, rfl⟩; clear cl)
        | (go_at_call 22; refine (set_step (n := 1) A6.out D4.out.sq rfl px py true P.out.1 P.out.2 (by omega)).mono ?_; rintro e u7 ⟨L7, j7, F7, q7, rfl, D, hl7, hc7, _⟩; have D7 := Lib.hid D; clear D
           have hv : alv L7 1 j7 px py = true := by rw [hc7 px py P.out.1 P.out.2, if_pos ⟨rfl, rfl⟩]
           have G2 := get_step (n := 1) D7.out.held D7.out.sq hl7 px py P.out.1 P.out.2; rw [hv] at G2; have G2h := Lib.hid G2
           have hn1 : ¬ j7 = j4 := turned_ne D4.out.wf D7.out.ext D4.out.sq rfl hv HBb.out
           have hne : ¬ ((j7 : Nat) : Int) = ((j4 : Nat) : Int) := fun hh => hn1 (Int.ofNat.inj hh)
           have hn2 : (((j7 : Nat) : Int) == ((j4 : Nat) : Int)) = false := beq_eq_false_iff_ne.2 hne
           have hn3 : (((j7 : Nat) : Int) != ((j4 : Nat) : Int)) = true := bne_iff_ne.2 hne
           clear G2 hv hc7 hl7)
        | (go_at_call 20; refine G2h.out.mono ?_; rintro e u8 ⟨rfl, HH⟩; have A8 := Lib.hid HH; clear HH G2h)
        | (go_at_call 19; refine (sure11 _).mono ?_; rintro e u9 ⟨rfl, hb9⟩))
      go_ret
      exact ⟨rfl, A8.out.keep.trans (hb9.mono A8.out.keep.size)⟩
    · go_wp2_with (first
        | (go_at_call 20; refine G1h.out.mono ?_; rintro e u6 ⟨rfl, HH⟩; have A6 := Lib.hid HH; clear HH G1h; have cl : u6.cell? ⟨w.heap.size, 3, none⟩ = some (.int .u64 (t3 : Nat)) := cell_of_row _ _ 3 _ _ _ A6.out.b1)
        | (go_at_call 21; refine (TGh.out _).mono ?_; rintro e u ⟨rfl, rfl⟩; clear cl)
        | (go_at_call 22; refine (set_step (n := 1) A6.out D4.out.sq rfl px py false P.out.1 P.out.2 (by omega)).mono ?_; rintro e u7 ⟨L7, j7, F7, q7, rfl, D, hl7, hc7, _⟩; have D7 := Lib.hid D; clear D
           have hv : alv L7 1 j7 px py = false := by rw [hc7 px py P.out.1 P.out.2, if_pos ⟨rfl, rfl⟩]
           have G2 := get_step (n := 1) D7.out.held D7.out.sq hl7 px py P.out.1 P.out.2; rw [hv] at G2; have G2h := Lib.hid G2
           have hn1 : ¬ j7 = j4 := turned_ne D4.out.wf D7.out.ext D4.out.sq rfl hv HBb.out
           have hne : ¬ ((j7 : Nat) : Int) = ((j4 : Nat) : Int) := fun hh => hn1 (Int.ofNat.inj hh)
           have hn2 : (((j7 : Nat) : Int) == ((j4 : Nat) : Int)) = false := beq_eq_false_iff_ne.2 hne
           have hn3 : (((j7 : Nat) : Int) != ((j4 : Nat) : Int)) = true := bne_iff_ne.2 hne
           clear G2 hv hc7 hl7)
        | (go_at_call 20; refine G2h.out.mono ?_; rintro e u8 ⟨rfl, HH⟩; have A8 := Lib.hid HH; clear HH G2h)
        | (go_at_call 19; refine (sure11 _).mono ?_; rintro e u9 ⟨rfl, hb9⟩))
      go_ret
      exact ⟨rfl, A8.out.keep.trans (hb9.mono A8.out.keep.size)⟩
end Go.Proofs.Ytmabgfdibbidcaa
