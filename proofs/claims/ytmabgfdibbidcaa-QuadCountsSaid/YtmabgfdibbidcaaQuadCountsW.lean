/- The walk of quiltlaw11.QuadCounts. -/
import Derived.Test.YtmabgfdibbidcaaSteps
import Derived.Test.YtmabgfdibbidcaaLawQuadCounts
namespace Go.Proofs.Ytmabgfdibbidcaa
open Go.RowKit

theorem four_two (j : Nat) : 4 ^ (j + 3) = 2 ^ (2 * (j + 3)) := by rw [Nat.pow_mul]
theorem want_low (j c : Nat) (hc : c = min (4 ^ (j + 3)) 4611686018427387904) (h : j + 3 < 31) : (((c : Nat) : Int) == wrap64 (2 ^ (2 * (j + 3)))) = true := by
  have hp : 2 ^ (2 * (j + 3)) ≤ 2 ^ 60 := Nat.pow_le_pow_right (by decide) (by omega)
  have e : (2 : Int) ^ (2 * (j + 3)) = ((2 ^ (2 * (j + 3)) : Nat) : Int) := by simp
  rw [hc, four_two, e]
  generalize 2 ^ (2 * (j + 3)) = m at hp
  rw [beq_iff_eq]
  unfold wrap64
  omega
theorem want_high (j c : Nat) (hc : c = min (4 ^ (j + 3)) 4611686018427387904) (h : 31 ≤ j + 3) : (((c : Nat) : Int) == 4611686018427387904) = true := by
  have hp : 2 ^ 62 ≤ 2 ^ (2 * (j + 3)) := Nat.pow_le_pow_right (by decide) (by omega)
  rw [hc, four_two]
  generalize 2 ^ (2 * (j + 3)) = m at hp
  rw [beq_iff_eq]
  omega
set_option maxRecDepth 100000 in
set_option maxHeartbeats 1000000 in
theorem quadCounts_walk (z0 z1 z2 z3 level : Int) (v0 : (Lit.int .u64 z0).wf = true) (v1 : (Lit.int .u64 z1).wf = true) (v2 : (Lit.int .u64 z2).wf = true) (v3 : (Lit.int .u64 z3).wf = true) (w9 : (Lit.int .i64 level).wf = true) (w : World) :
    Calls Try.prog 3 #[.agg #[.int .u64 z0, .int .u64 z1, .int .u64 z2, .int .u64 z3], .int .i64 level] w fun e w' => e = .returned (.bool true) ∧ Below w.heap.size w w' := by
  obtain ⟨t0, rfl, h0⟩ : ∃ t : Nat, z0 = (t : Int) ∧ t < 18446744073709551616 := ⟨z0.toNat, by have := wf_u64 v0; omega, by have := wf_u64 v0; omega⟩
  obtain ⟨t1, rfl, h1⟩ : ∃ t : Nat, z1 = (t : Int) ∧ t < 18446744073709551616 := ⟨z1.toNat, by have := wf_u64 v1; omega, by have := wf_u64 v1; omega⟩
  obtain ⟨t2, rfl, h2⟩ : ∃ t : Nat, z2 = (t : Int) ∧ t < 18446744073709551616 := ⟨z2.toNat, by have := wf_u64 v2; omega, by have := wf_u64 v2; omega⟩
  obtain ⟨t3, rfl, h3⟩ : ∃ t : Nat, z3 = (t : Int) ∧ t < 18446744073709551616 := ⟨z3.toNat, by have := wf_u64 v3; omega, by have := wf_u64 v3; omega⟩
  have hlev := wf_i64 w9
  clear v0 v1 v2 v3 w9
  have HT := Lib.hid (And.intro h0 (And.intro h1 (And.intro h2 h3)))
  clear h0 h1 h2 h3
  have e0 := errv_zero
  have HB := Lib.hid ((Held.start w).box (.cells #[.int .u64 (t0 : Nat), .int .u64 (t1 : Nat), .int .u64 (t2 : Nat), .int .u64 (t3 : Nat)] 23 (0, 0)))
  have HN := fun W => Lib.hid (new_st W 200 (by omega) (by omega))
  go_enter Try.func3, Try.ntmps3
  go_wp2_with (go_at_call 14; refine (HN _).out.mono ?_; rintro e w1 ⟨rfl, hs1, hb1, hz1⟩; have H1a := HB.out.new hs1 hb1; simp only [World.size_alloc] at H1a; have H1 := Lib.hid H1a; simp only [World.size_alloc] at hz1; have Hz1 := Lib.hid hz1; clear hs1 hb1 hz1 H1a)
  have N0 := Lib.hid ((H1.out.box (.cells #[.int .i64 0, .int .i64 0, .int .i64 0, .int .i64 0] 29 (0, 0))))
  generalize hW0 : w1.alloc (.cells #[.int .i64 0, .int .i64 0, .int .i64 0, .int .i64 0] 29) = W0 at *
  have y0 : ([] : List Sq).length ≤ 0 := Nat.le_refl _
  have kne := Lib.hid (show w.heap.size ≠ w1.heap.size by have := Hz1.out; omega)
  refine wp_loop_rounds 5 ?_
  rw [rounds_succ]
  have p0 : ((popc t0 : Nat) : Int) ≤ 64 := by have : popc t0 ≤ 64 := pop_le _ _; omega
  have c0 : W0.cell? ⟨w.heap.size, 0, none⟩ = some (.int .u64 (t0 : Nat)) := cell_of_row _ _ 0 _ _ _ N0.out.b1
  go_wp2_with (first
    | (go_at_call 15; refine (leaf_step N0.out t0 (HT.out.1) (by omega)).mono ?_; rintro e u0 ⟨L1, i0, F1, rfl, D⟩; have D0 := Lib.hid D; clear D; have C0 := Lib.hid (count_step D0.out.held D0.out.sq))
    | (go_at_call 16; refine C0.out.mono ?_; rintro e x0 ⟨rfl, HH⟩; have A0 := Lib.hid HH; clear HH C0; have q0 : cnt L1 i0 = popc t0 := leaf_cnt D0.out.sq; have d0 : x0.cell? ⟨w.heap.size, 0, none⟩ = some (.int .u64 (t0 : Nat)) := cell_of_row _ _ 0 _ _ _ A0.out.b1; have k0 : x0.cell? ⟨w1.heap.size, 0, none⟩ = some (.int .i64 0) := cell_of_row _ _ 0 _ _ _ A0.out.b0; have f0 : x0.frozen? ⟨w1.heap.size, 0, none⟩ = false := frozen_of_row _ _ _ _ _ A0.out.b0)
    | (go_at_call 17; refine (tcount_nat t0 _ (HT.out.1)).mono ?_; rintro e x ⟨rfl, rfl⟩))
  have N1 := Lib.hid (A0.out.setCell (by intro c hc; simp at hc; subst hc; exact kne.out) 0 (.int .i64 (i0 : Nat)))
  generalize hW1 : x0.setCell ⟨w1.heap.size, 0, none⟩ (.int .i64 (i0 : Nat)) = W1 at *
  have y1 : L1.length ≤ 1 := by have := D0.out.len; omega
  have Q0 := Lib.hid q0
  clear hW1 c0 d0 k0 f0 q0 A0 y0
  rw [rounds_succ]
  have p1 : ((popc t1 : Nat) : Int) ≤ 64 := by have : popc t1 ≤ 64 := pop_le _ _; omega
  have c1 : W1.cell? ⟨w.heap.size, 1, none⟩ = some (.int .u64 (t1 : Nat)) := cell_of_row _ _ 1 _ _ _ N1.out.b1
  go_wp2_with (first
    | (go_at_call 15; refine (leaf_step N1.out t1 (HT.out.2.1) (by omega)).mono ?_; rintro e u1 ⟨L2, i1, F2, rfl, D⟩; have D1 := Lib.hid D; clear D; have C1 := Lib.hid (count_step D1.out.held D1.out.sq))
    | (go_at_call 16; refine C1.out.mono ?_; rintro e x1 ⟨rfl, HH⟩; have A1 := Lib.hid HH; clear HH C1; have q1 : cnt L2 i1 = popc t1 := leaf_cnt D1.out.sq; have d1 : x1.cell? ⟨w.heap.size, 1, none⟩ = some (.int .u64 (t1 : Nat)) := cell_of_row _ _ 1 _ _ _ A1.out.b1; have k1 : x1.cell? ⟨w1.heap.size, 1, none⟩ = some (.int .i64 0) := cell_of_row _ _ 1 _ _ _ A1.out.b0; have f1 : x1.frozen? ⟨w1.heap.size, 1, none⟩ = false := frozen_of_row _ _ _ _ _ A1.out.b0)
    | (go_at_call 17; refine (tcount_nat t1 _ (HT.out.2.1)).mono ?_; rintro e x ⟨rfl, rfl⟩))
  have N2 := Lib.hid (A1.out.setCell (by intro c hc; simp at hc; subst hc; exact kne.out) 1 (.int .i64 (i1 : Nat)))
  generalize hW2 : x1.setCell ⟨w1.heap.size, 1, none⟩ (.int .i64 (i1 : Nat)) = W2 at *
  have y2 : L2.length ≤ 2 := by have := D1.out.len; omega
  have Q1 := Lib.hid q1
  clear hW2 c1 d1 k1 f1 q1 A1 y1
  rw [rounds_succ]
  have p2 : ((popc t2 : Nat) : Int) ≤ 64 := by have : popc t2 ≤ 64 := pop_le _ _; omega
  have c2 : W2.cell? ⟨w.heap.size, 2, none⟩ = some (.int .u64 (t2 : Nat)) := cell_of_row _ _ 2 _ _ _ N2.out.b1
  go_wp2_with (first
    | (go_at_call 15; refine (leaf_step N2.out t2 (HT.out.2.2.1) (by omega)).mono ?_; rintro e u2 ⟨L3, i2, F3, rfl, D⟩; have D2 := Lib.hid D; clear D; have C2 := Lib.hid (count_step D2.out.held D2.out.sq))
    | (go_at_call 16; refine C2.out.mono ?_; rintro e x2 ⟨rfl, HH⟩; have A2 := Lib.hid HH; clear HH C2; have q2 : cnt L3 i2 = popc t2 := leaf_cnt D2.out.sq; have d2 : x2.cell? ⟨w.heap.size, 2, none⟩ = some (.int .u64 (t2 : Nat)) := cell_of_row _ _ 2 _ _ _ A2.out.b1; have k2 : x2.cell? ⟨w1.heap.size, 2, none⟩ = some (.int .i64 0) := cell_of_row _ _ 2 _ _ _ A2.out.b0; have f2 : x2.frozen? ⟨w1.heap.size, 2, none⟩ = false := frozen_of_row _ _ _ _ _ A2.out.b0)
    | (go_at_call 17; refine (tcount_nat t2 _ (HT.out.2.2.1)).mono ?_; rintro e x ⟨rfl, rfl⟩))
  have N3 := Lib.hid (A2.out.setCell (by intro c hc; simp at hc; subst hc; exact kne.out) 2 (.int .i64 (i2 : Nat)))
  generalize hW3 : x2.setCell ⟨w1.heap.size, 2, none⟩ (.int .i64 (i2 : Nat)) = W3 at *
  have y3 : L3.length ≤ 3 := by have := D2.out.len; omega
  have Q2 := Lib.hid q2
  clear hW3 c2 d2 k2 f2 q2 A2 y2
  rw [rounds_succ]
  have p3 : ((popc t3 : Nat) : Int) ≤ 64 := by have : popc t3 ≤ 64 := pop_le _ _; omega
  have c3 : W3.cell? ⟨w.heap.size, 3, none⟩ = some (.int .u64 (t3 : Nat)) := cell_of_row _ _ 3 _ _ _ N3.out.b1
  go_wp2_with (first
    | (go_at_call 15; refine (leaf_step N3.out t3 (HT.out.2.2.2) (by omega)).mono ?_; rintro e u3 ⟨L4, i3, F4, rfl, D⟩; have D3 := Lib.hid D; clear D; have C3 := Lib.hid (count_step D3.out.held D3.out.sq))
    | (go_at_call 16; refine C3.out.mono ?_; rintro e x3 ⟨rfl, HH⟩; have A3 := Lib.hid HH; clear HH C3; have q3 : cnt L4 i3 = popc t3 := leaf_cnt D3.out.sq; have d3 : x3.cell? ⟨w.heap.size, 3, none⟩ = some (.int .u64 (t3 : Nat)) := cell_of_row _ _ 3 _ _ _ A3.out.b1; have k3 : x3.cell? ⟨w1.heap.size, 3, none⟩ = some (.int .i64 0) := cell_of_row _ _ 3 _ _ _ A3.out.b0; have f3 : x3.frozen? ⟨w1.heap.size, 3, none⟩ = false := frozen_of_row _ _ _ _ _ A3.out.b0)
    | (go_at_call 17; refine (tcount_nat t3 _ (HT.out.2.2.2)).mono ?_; rintro e x ⟨rfl, rfl⟩))
  have N4 := Lib.hid (A3.out.setCell (by intro c hc; simp at hc; subst hc; exact kne.out) 3 (.int .i64 (i3 : Nat)))
  generalize hW4 : x3.setCell ⟨w1.heap.size, 3, none⟩ (.int .i64 (i3 : Nat)) = W4 at *
  have y4 : L4.length ≤ 4 := by have := D3.out.len; omega
  have Q3 := Lib.hid q3
  clear hW4 c3 d3 k3 f3 q3 A3 y3
  rw [rounds_succ]
  have a0 := Lib.hid (D3.out.ext.at (D2.out.ext.at (D1.out.ext.at D0.out.sq)))
  have a1 := Lib.hid (D3.out.ext.at (D2.out.ext.at D1.out.sq))
  have a2 := Lib.hid (D3.out.ext.at D2.out.sq)
  have a3 := Lib.hid D3.out.sq
  clear D0 D1 D2 D3
  have r0 : W4.cell? ⟨w1.heap.size, 0, none⟩ = some (.int .i64 (i0 : Nat)) := cell_of_row _ _ 0 _ _ _ N4.out.b0
  have r1 : W4.cell? ⟨w1.heap.size, 1, none⟩ = some (.int .i64 (i1 : Nat)) := cell_of_row _ _ 1 _ _ _ N4.out.b0
  have r2 : W4.cell? ⟨w1.heap.size, 2, none⟩ = some (.int .i64 (i2 : Nat)) := cell_of_row _ _ 2 _ _ _ N4.out.b0
  have r3 : W4.cell? ⟨w1.heap.size, 3, none⟩ = some (.int .i64 (i3 : Nat)) := cell_of_row _ _ 3 _ _ _ N4.out.b0
  have M := Lib.hid (N4.out.tail.tail)
  go_wp2_with (go_at_call 18; refine (node_step (m := 3) M.out a0.out a1.out a2.out a3.out rfl rfl rfl rfl (by omega) (by omega)).mono ?_; rintro e u4 ⟨L5, j4, F5, rfl, D⟩; have D4 := Lib.hid D; clear D r0 r1 r2 r3)
  have C4 := Lib.hid (count_step D4.out.held D4.out.sq)
  have y5 : L5.length ≤ 5 := by have := D4.out.len; omega
  have hsum : cnt L5 j4 = popc t0 + popc t1 + popc t2 + popc t3 := by
    have h := cnt_node D4.out.wf D4.out.sq (by show 4 ≠ 3; omega)
    rw [h]
    show sat4 (cnt L5 i0) (cnt L5 i1) (cnt L5 i2) (cnt L5 i3) = _
    rw [cnt_ext D4.out.ext a0.out, cnt_ext D4.out.ext a1.out, cnt_ext D4.out.ext a2.out, cnt_ext D4.out.ext a3.out, leaf_cnt a0.out, leaf_cnt a1.out, leaf_cnt a2.out, leaf_cnt a3.out, sat4_eq]
    omega
  have HS := Lib.hid hsum
  clear hsum a0 a1 a2 a3 Q0 Q1 Q2 Q3
  go_wp2_with (go_at_call 16; refine C4.out.mono ?_; rintro e x4 ⟨rfl, HH⟩; have A4 := Lib.hid HH; clear HH C4)
  obtain ⟨n, hn, hm⟩ := mod_level level
  rw [hm]
  clear hm
  refine (leaf_full A4.out (by omega)).mono ?_
  rintro e u5 ⟨L6, f0, F6, rfl, D⟩
  have D5 := Lib.hid D
  clear D
  have y6 : L6.length ≤ 6 := by have := D5.out.len; omega
  have i1 : (n : Int) ≤ 37 := by omega
  have FS := Lib.hid (fullL_spec 200 L6 f0 (leafSq 18446744073709551615) D5.out.wf D5.out.sq rfl ((leaf_cnt D5.out.sq).trans popc_full))
  go_wp2
  go_loopw [19, 20, 21] (fun id er i wr => ∃ j : Nat, j ≤ n ∧ i = .int .i64 ((j : Int) + 3) ∧ id = .int .i64 ((fullL 200 L6 f0 j).2.1 : Nat) ∧ er = .nilIface ∧ ∃ F, Held w wr [⟨w.heap.size + 1 + 1, 200, (fullL 200 L6 f0 j).1, F⟩] []) (fun _ _ i _ => (n + 3 - intOf i).toNat)
  case atStart => exact ⟨0, Nat.zero_le _, rfl, rfl, rfl, F6, D5.out.held⟩
  case round =>
    obtain ⟨j, hj, rfl, rfl, rfl, Fj, Hj⟩ := hrel
    have HJ := Lib.hid Hj
    clear Hj
    have S := Lib.hid (FS.out j (by omega) (by omega))
    by_cases hlt : j < n
    · have HN2 := node_any wr _ _ _ _ ((fullL 200 L6 f0 j).2.1 : Nat) ((fullL 200 L6 f0 j).2.1 : Nat) ((fullL 200 L6 f0 j).2.1 : Nat) ((fullL 200 L6 f0 j).2.1 : Nat) HJ.out.head
      simp only [Int.toNat_natCast] at HN2
      have S2 := FS.out (j + 1) (by omega) (by omega)
      have er2 := S2.er
      have HX := Lib.hid HN2
      have E2 := Lib.hid er2
      clear S2 er2 HN2
      go_wp2_with (go_at_call 18; refine HX.out.mono ?_; rintro e u6 ⟨rfl, ha6⟩)
      go_roundw
      case rel => exact ⟨j + 1, by omega, by go_num, rfl, by show errv (fullL 200 L6 f0 (j + 1)).2.2 = _; rw [E2.out]; rfl, _, HJ.out.acted ha6⟩
      case measure => simp [intOf]; omega
    · obtain rfl : j = n := by omega
      obtain ⟨fq, g1, g2, g3⟩ := S.out.sq
      have hlen := S.out.len
      have G := Lib.hid (And.intro g1 (And.intro g2 g3))
      clear g1 g2 g3
      generalize hfl : fullL 200 L6 f0 j = r at *
      obtain ⟨Lf, idf, erf⟩ := r
      clear hfl S FS
      simp only at hlen HJ G
      have CF := Lib.hid (count_step HJ.out G.out.1)
      have hs1 : (((cnt L5 j4 : Nat) : Int) == ((popc t0 : Nat) : Int) + ((popc t1 : Nat) : Int) + ((popc t2 : Nat) : Int) + ((popc t3 : Nat) : Int)) = true := by rw [HS.out]; simp
      have hw1 := want_low j (cnt Lf idf) G.out.2.2
      have hw2 := want_high j (cnt Lf idf) G.out.2.2
      have NL := fun (W : World) (h : Held w W [⟨w.heap.size + 1 + 1, 200, Lf, Fj⟩] []) (hl : j = 37) => node_last h G.out.1 (by rw [G.out.2.1, hl])
      have NS := fun (W : World) (h : Held w W [⟨w.heap.size + 1 + 1, 200, Lf, Fj⟩] []) (hl : j < 37) => node_step (m := j + 3) h G.out.1 G.out.1 G.out.1 G.out.1 G.out.2.1 G.out.2.1 G.out.2.1 G.out.2.1 (by omega) (by have := hlen; omega)
      have HNL := Lib.hid NL
      have HNS := Lib.hid NS
      clear NL NS
      by_cases h31 : j + 3 < 31
      · have hw := hw1 h31
        have hc40 : decide ((j : Int) + 3 < 40) = true := decide_eq_true (by omega)
        have hc31 : decide ((j : Int) + 3 < 31) = true := decide_eq_true (by omega)
        clear hw1 hw2
        go_wp2_with (first
          | (go_at_call 16; refine CF.out.mono ?_; rintro e u7 ⟨rfl, HH⟩; have A7 := Lib.hid HH; clear HH CF)
          | (go_at_call 18; refine (HNS.out _ A7.out (by omega)).mono ?_; rintro e u8 ⟨L8, j8, F8, rfl, D⟩; have D8 := Lib.hid D; clear D)
          | (go_at_call 19; refine (sure11 _).mono ?_; rintro e u9 ⟨rfl, hb9⟩))
        go_ret
        exact ⟨rfl, D8.out.held.keep.trans (hb9.mono D8.out.held.keep.size)⟩
      · have hw := hw2 (by omega)
        have hc31 : decide ((j : Int) + 3 < 31) = false := decide_eq_false (by omega)
        clear hw1 hw2
        by_cases h40 : j < 37
        · have hc40 : decide ((j : Int) + 3 < 40) = true := decide_eq_true (by omega)
          go_wp2_with (first
            | (go_at_call 16; refine CF.out.mono ?_; rintro e u7 ⟨rfl, HH⟩; have A7 := Lib.hid HH; clear HH CF)
            | (go_at_call 18; refine (HNS.out _ A7.out h40).mono ?_; rintro e u8 ⟨L8, j8, F8, rfl, D⟩; have D8 := Lib.hid D; clear D)
            | (go_at_call 19; refine (sure11 _).mono ?_; rintro e u9 ⟨rfl, hb9⟩))
          go_ret
          exact ⟨rfl, D8.out.held.keep.trans (hb9.mono D8.out.held.keep.size)⟩
        · have hc40 : decide ((j : Int) + 3 < 40) = false := decide_eq_false (by omega)
          go_wp2_with (first
            | (go_at_call 16; refine CF.out.mono ?_; rintro e u7 ⟨rfl, HH⟩; have A7 := Lib.hid HH; clear HH CF)
            | (go_at_call 18; refine (HNL.out _ A7.out (by omega)).mono ?_; rintro e u8 ⟨rfl, HH⟩; have D8 := Lib.hid HH; clear HH; unfold errv)
            | (go_at_call 19; refine (sure11 _).mono ?_; rintro e u9 ⟨rfl, hb9⟩))
          go_ret
          exact ⟨rfl, D8.out.keep.trans (hb9.mono D8.out.keep.size)⟩
end Go.Proofs.Ytmabgfdibbidcaa
