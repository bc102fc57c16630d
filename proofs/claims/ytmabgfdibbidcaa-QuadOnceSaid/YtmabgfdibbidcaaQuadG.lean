/- Contracts of package quad: Node: the square of four. -/
import Derived.Test.YtmabgfdibbidcaaQuadF
import Derived.Test.YtmabgfdibbidcaaSeg
import Derived.Lib.MinMax
import Derived.Lib.ItoaWalk
namespace Go.Proofs.Ytmabgfdibbidcaa
open Go.RowKit

def Zq : Sq := ⟨0, 0, 0, 0, 0, 0⟩
def F4 (a b c d : Sq) : Array Value := (sqVals a ++ sqVals b ++ sqVals c ++ sqVals d).toArray
/-- The state at the head of a round. -/
structure NodeSt (w W : World) (p R : Nat) (L : List Sq) (F : Nat → Prop) (a0 a1 a2 a3 : Int) (A : Array Value) : Prop where
  st : Store W p R L F
  four : W.heap[w.heap.size + 1]? = some (.cells A 107 (0, 0))
  arg : W.heap[w.heap.size]? = some (.cells #[.int .i64 a0, .int .i64 a1, .int .i64 a2, .int .i64 a3] 29 (0, 0))
  keep : Below w.heap.size w W
  big : w.heap.size + 1 < W.heap.size
theorem NodeSt.start {w : World} {p R : Nat} {L : List Sq} {F : Nat → Prop} (h : Store w p R L F) (a0 a1 a2 a3 : Int) :
    NodeSt w ((w.alloc (.cells #[.int .i64 a0, .int .i64 a1, .int .i64 a2, .int .i64 a3] 29)).alloc (.cells (F4 Zq Zq Zq Zq) 107)) p R L F a0 a1 a2 a3 (F4 Zq Zq Zq Zq) :=
  ⟨(h.alloc _).alloc _, last_block _ _ _ (by simp), (Below.heap_alloc _ _ _ (by simp)).trans (heap_alloc_new w _), ((Below.refl _ _).alloc (Nat.le_refl _) _).alloc (by simp) _, by simp⟩
theorem NodeSt.step {w W w1 : World} {p R : Nat} {L : List Sq} {F : Nat → Prop} {a0 a1 a2 a3 : Int} {A : Array Value} (h : NodeSt w W p R L F a0 a1 a2 a3 A) (hF : ∀ i, F i → i < w.heap.size) (hb : Below W.heap.size W w1) (X : Obj) (A' : Array Value) :
    NodeSt w ((w1.alloc X).setRow (w.heap.size + 1) A') p R L F a0 a1 a2 a3 A' := by
  have hz := h.big
  have hz1 := hb.size
  have hf : (w1.alloc X).heap[w.heap.size + 1]? = some (.cells A 107 (0, 0)) := (Below.heap_alloc _ _ _ (by omega)).trans ((hb.block _ (by omega)).trans h.four)
  have ha : (w1.alloc X).heap[w.heap.size]? = some (.cells #[.int .i64 a0, .int .i64 a1, .int .i64 a2, .int .i64 a3] 29 (0, 0)) := (Below.heap_alloc _ _ _ (by omega)).trans ((hb.block _ (by omega)).trans h.arg)
  have hk := (h.keep.trans (hb.mono (by omega))).alloc (by omega) X
  refine ⟨?_, setRow_heap _ _ _ _ _ _ hf, (setRow_other _ _ _ _ (by omega)).trans ha, bel_setRow hk (by omega) _, by rw [size_setRow, World.size_alloc]; omega⟩
  exact ((h.st.below hb).alloc X).kept (G := fun i => i = w.heap.size + 1) ((Keep.refl (fun i => i = w.heap.size + 1) _).setRow (.inl (rfl : w.heap.size + 1 = w.heap.size + 1)) _) (fun i hi e => by have := hF i hi; omega)
theorem NodeSt.four1 {w W w1 : World} {p R : Nat} {L : List Sq} {F : Nat → Prop} {a0 a1 a2 a3 : Int} {A : Array Value} (h : NodeSt w W p R L F a0 a1 a2 a3 A) (hb : Below W.heap.size W w1) (X : Obj) :
    (w1.alloc X).heap[w.heap.size + 1]? = some (.cells A 107 (0, 0)) := by
  have hz := h.big
  have hz1 := hb.size
  exact (Below.heap_alloc _ _ _ (by omega)).trans ((hb.block _ (by omega)).trans h.four)
theorem at_okk (w : World) (p R : Nat) (L : List Sq) (F : Nat → Prop) (k : Nat) (q : Sq) (hs : Store w p R L F) (hq : L[k]? = some q) :
    Calls Try.prog 44 #[.pointer (some ⟨p, 0, none⟩), .int .i64 ((k : Int) + 1)] w fun e w' => e = .returned (.tuple #[.agg #[.int .i64 (q.lv : Nat), .int .u64 (q.tl : Nat), .int .i64 (q.ka : Nat), .int .i64 (q.kb : Nat), .int .i64 (q.kc : Nat), .int .i64 (q.kd : Nat)], .nilIface]) ∧ Below w.heap.size w w' :=
  at_ok w p R L F _ q hs (by omega) (by rw [show ((k : Int) + 1).toNat = k + 1 by omega]; exact hq)
theorem many_at {w : World} {p R : Nat} {L : List Sq} {F : Nat → Prop} (h : Store w p R L F) {k : Nat} {q : Sq} (hq : L[k]? = some q) :
    ∃ (g cap : Nat), w.cell? ⟨p, 2, none⟩ = some (.slice (some ⟨g, 0, none⟩) L.length cap) ∧ w.cell? ⟨g, k, none⟩ = some (.int .i64 (cnt L (k + 1) : Nat)) ∧ F p ∧ F g := by
  obtain ⟨lv, mv, kb, hst, hF⟩ := h.at'
  have hv : ∀ g, mv.ownBlock = some g → F g := fun g hg => hF g (.inr (.inr (.inr hg)))
  obtain ⟨g, cap, rfl, hr⟩ := hst.mv_at (k := k) hq
  exact ⟨g, cap, hst.cells.2.2.1, hr, h.self, hv g rfl⟩
theorem row_far {w w1 : World} {a : Addr} {v : Value} (h : w1.cell? a = some v) (ha : a.block < w.heap.size) : ∀ X A, ((w1.alloc X).setRow (w.heap.size + 1) A).cell? a = some v := fun X A => by
  rw [cell_setRow_other _ _ _ _ (by omega), World.cell?_alloc_lt _ _ a (World.block_lt_of_cell? w1 a h)]
  exact h
def satI (n m : Int) : Int := n + min m (4611686018427387904 - n)
theorem satI_eq (n m : Nat) (h : n ≤ 4611686018427387904) : satI n m = (sat n m : Nat) := by unfold satI sat; omega
theorem Acted.before' {a b c : World} {p R : Nat} {M : List Sq} {F : Nat → Prop} (h : Below a.heap.size a b) (k : Acted b c p R M F) : Acted a c p R M F := Acted.before h k
theorem Z0 : (sqVals Zq) = [.int .i64 0, .int .u64 0, .int .i64 0, .int .i64 0, .int .i64 0, .int .i64 0] := rfl

set_option maxRecDepth 100000 in
set_option maxHeartbeats 4000000 in
theorem qnode_ok (w : World) (p R : Nat) (L : List Sq) (F : Nat → Prop) (k0 k1 k2 k3 : Nat) (q0 q1 q2 q3 : Sq) (m : Nat) (hs : Store w p R L F) (e0 : L[k0]? = some q0) (t0 : k0 < L.length) (e1 : L[k1]? = some q1) (t1 : k1 < L.length) (e2 : L[k2]? = some q2) (t2 : k2 < L.length) (e3 : L[k3]? = some q3) (t3 : k3 < L.length) (l0 : q0.lv = m) (l1 : q1.lv = m) (l2 : q2.lv = m) (l3 : q3.lv = m) (hm : m < 40) :
    Calls Try.prog 18 #[.pointer (some ⟨p, 0, none⟩), .agg #[.int .i64 ((k0 : Int) + 1), .int .i64 ((k1 : Int) + 1), .int .i64 ((k2 : Int) + 1), .int .i64 ((k3 : Int) + 1)]] w fun e w' => e = .returned (.tuple #[.int .i64 ((nodeL R L (k0 + 1) (k1 + 1) (k2 + 1) (k3 + 1)).2.1 : Nat), errv (nodeL R L (k0 + 1) (k1 + 1) (k2 + 1) (k3 + 1)).2.2]) ∧ Acted w w' p R (nodeL R L (k0 + 1) (k1 + 1) (k2 + 1) (k3 + 1)).1 F := by
  have j0 : ∀ w, (Instr.index 29 (.agg #[.int .i64 ((k0 : Int) + 1), .int .i64 ((k1 : Int) + 1), .int .i64 ((k2 : Int) + 1), .int .i64 ((k3 : Int) + 1)]) (.int .i64 0)).run Try.prog w = .ok (.int .i64 ((k0 : Int) + 1)) w := fun _ => by kernel_rfl
  have j1 : ∀ w, (Instr.index 29 (.agg #[.int .i64 ((k0 : Int) + 1), .int .i64 ((k1 : Int) + 1), .int .i64 ((k2 : Int) + 1), .int .i64 ((k3 : Int) + 1)]) (.int .i64 1)).run Try.prog w = .ok (.int .i64 ((k1 : Int) + 1)) w := fun _ => by kernel_rfl
  have j2 : ∀ w, (Instr.index 29 (.agg #[.int .i64 ((k0 : Int) + 1), .int .i64 ((k1 : Int) + 1), .int .i64 ((k2 : Int) + 1), .int .i64 ((k3 : Int) + 1)]) (.int .i64 2)).run Try.prog w = .ok (.int .i64 ((k2 : Int) + 1)) w := fun _ => by kernel_rfl
  have j3 : ∀ w, (Instr.index 29 (.agg #[.int .i64 ((k0 : Int) + 1), .int .i64 ((k1 : Int) + 1), .int .i64 ((k2 : Int) + 1), .int .i64 ((k3 : Int) + 1)]) (.int .i64 3)).run Try.prog w = .ok (.int .i64 ((k3 : Int) + 1)) w := fun _ => by kernel_rfl
  have hl := hs.len
  have hF : Hid (∀ i, F i → i < w.heap.size) := Lib.hid hs.lt
  have N0 := Lib.hid (NodeSt.start hs ((k0 : Int) + 1) ((k1 : Int) + 1) ((k2 : Int) + 1) ((k3 : Int) + 1))
  have HS := Lib.hid hs
  clear hs
  have HL := Lib.hid (And.intro (And.intro l0 l1) (And.intro l2 l3))
  rw [nodeL_eq (m := m) (show at? L (k0 + 1) = some q0 from e0) (show at? L (k1 + 1) = some q1 from e1) (show at? L (k2 + 1) = some q2 from e2) (show at? L (k3 + 1) = some q3 from e3) l0 l1 l2 l3 hm]
  have HN := Lib.hid (node_ok HS.out.wf (show at? L (k0 + 1) = some q0 from e0) (show at? L (k1 + 1) = some q1 from e1) (show at? L (k2 + 1) = some q2 from e2) (show at? L (k3 + 1) = some q3 from e3) l0 l1 l2 l3 hm)
  clear l0 l1 l2 l3
  have E0 := Lib.hid e0
  clear e0
  have E1 := Lib.hid e1
  clear e1
  have E2 := Lib.hid e2
  clear e2
  have E3 := Lib.hid e3
  clear e3
  go_enter Try.func18, Try.ntmps18
  go_wp2
  refine wp_loop_rounds 5 ?_
  rw [rounds_succ]
  go_wp2_with (first
    | (go_at_call 44; refine (at_okk _ p R L F k0 q0 N0.out.st E0.out).mono ?_; rintro e v0 ⟨rfl, hb0⟩; obtain ⟨g0, c0, x0, y0, z0, u0⟩ := many_at (N0.out.st.below hb0) E0.out; have xx0 := row_far x0 (hF.out p z0); have yy0 := row_far y0 (hF.out g0 u0); clear x0 y0 z0 u0; have f0 := fun X => N0.out.four1 hb0 X)
    | (with_reducible refine wpList_store_seg rfl 103 (.tmp 30) (.tmp 29) rfl (w.heap.size + 1) 0 rfl 107 (F4 Zq Zq Zq Zq) #[.int .i64 (q0.lv : Nat), .int .u64 (q0.tl : Nat), .int .i64 (q0.ka : Nat), .int .i64 (q0.kb : Nat), .int .i64 (q0.kc : Nat), .int .i64 (q0.kd : Nat)] (F4 q0 Zq Zq Zq) (f0 _) rfl (by kernel_rfl) (by exact of_decide_eq_true (by kernel_rfl)) (by kernel_rfl) (by kernel_rfl) ?_))
  generalize hW1 : (v0.alloc (.cells #[.int .i64 (q0.lv : Nat), .int .u64 (q0.tl : Nat), .int .i64 (q0.ka : Nat), .int .i64 (q0.kb : Nat), .int .i64 (q0.kc : Nat), .int .i64 (q0.kd : Nat)] 103)).setRow (w.heap.size + 1) (F4 q0 Zq Zq Zq) = W1
  have N1 : Hid (NodeSt w W1 p R L F ((k0 : Int) + 1) ((k1 : Int) + 1) ((k2 : Int) + 1) ((k3 : Int) + 1) (F4 q0 Zq Zq Zq)) := by rw [← hW1]; exact Lib.hid (N0.out.step hF.out hb0 _ _)
  have hM1 : min ((cnt L (k0 + 1) : Nat) : Int) 4611686018427387904 = ((sat 0 (cnt L (k0 + 1)) : Nat) : Int) := by unfold sat; omega
  rw [hM1]
  have B1 : sat 0 (cnt L (k0 + 1)) ≤ 4611686018427387904 := sat_le _ _ (by omega)
  generalize hS1 : sat 0 (cnt L (k0 + 1)) = M1 at *
  have S1 := Lib.hid hS1
  clear hS1 hM1 hW1 hb0 xx0 yy0 f0 N0
  rw [rounds_succ]
  go_wp2_with (first
    | (go_at_call 44; refine (at_okk _ p R L F k1 q1 N1.out.st E1.out).mono ?_; rintro e v1 ⟨rfl, hb1⟩; obtain ⟨g1, c1, x1, y1, z1, u1⟩ := many_at (N1.out.st.below hb1) E1.out; have xx1 := row_far x1 (hF.out p z1); have yy1 := row_far y1 (hF.out g1 u1); clear x1 y1 z1 u1; have f1 := fun X => N1.out.four1 hb1 X)
    | (with_reducible refine wpList_store_seg rfl 103 (.tmp 30) (.tmp 29) rfl (w.heap.size + 1) 6 rfl 107 (F4 q0 Zq Zq Zq) #[.int .i64 (q1.lv : Nat), .int .u64 (q1.tl : Nat), .int .i64 (q1.ka : Nat), .int .i64 (q1.kb : Nat), .int .i64 (q1.kc : Nat), .int .i64 (q1.kd : Nat)] (F4 q0 q1 Zq Zq) (f1 _) rfl (by kernel_rfl) (by exact of_decide_eq_true (by kernel_rfl)) (by kernel_rfl) (by kernel_rfl) ?_))
  generalize hW2 : (v1.alloc (.cells #[.int .i64 (q1.lv : Nat), .int .u64 (q1.tl : Nat), .int .i64 (q1.ka : Nat), .int .i64 (q1.kb : Nat), .int .i64 (q1.kc : Nat), .int .i64 (q1.kd : Nat)] 103)).setRow (w.heap.size + 1) (F4 q0 q1 Zq Zq) = W2
  have N2 : Hid (NodeSt w W2 p R L F ((k0 : Int) + 1) ((k1 : Int) + 1) ((k2 : Int) + 1) ((k3 : Int) + 1) (F4 q0 q1 Zq Zq)) := by rw [← hW2]; exact Lib.hid (N1.out.step hF.out hb1 _ _)
  have hM2 : (M1 : Int) + min ((cnt L (k1 + 1) : Nat) : Int) (4611686018427387904 - (M1 : Int)) = ((sat M1 (cnt L (k1 + 1)) : Nat) : Int) := by unfold sat; omega
  rw [hM2]
  have B2 : sat M1 (cnt L (k1 + 1)) ≤ 4611686018427387904 := sat_le _ _ (by omega)
  generalize hS2 : sat M1 (cnt L (k1 + 1)) = M2 at *
  have S2 := Lib.hid hS2
  clear hS2 hM2 hW2 hb1 xx1 yy1 f1 N1
  rw [rounds_succ]
  go_wp2_with (first
    | (go_at_call 44; refine (at_okk _ p R L F k2 q2 N2.out.st E2.out).mono ?_; rintro e v2 ⟨rfl, hb2⟩; obtain ⟨g2, c2, x2, y2, z2, u2⟩ := many_at (N2.out.st.below hb2) E2.out; have xx2 := row_far x2 (hF.out p z2); have yy2 := row_far y2 (hF.out g2 u2); clear x2 y2 z2 u2; have f2 := fun X => N2.out.four1 hb2 X)
    | (with_reducible refine wpList_store_seg rfl 103 (.tmp 30) (.tmp 29) rfl (w.heap.size + 1) 12 rfl 107 (F4 q0 q1 Zq Zq) #[.int .i64 (q2.lv : Nat), .int .u64 (q2.tl : Nat), .int .i64 (q2.ka : Nat), .int .i64 (q2.kb : Nat), .int .i64 (q2.kc : Nat), .int .i64 (q2.kd : Nat)] (F4 q0 q1 q2 Zq) (f2 _) rfl (by kernel_rfl) (by exact of_decide_eq_true (by kernel_rfl)) (by kernel_rfl) (by kernel_rfl) ?_))
  generalize hW3 : (v2.alloc (.cells #[.int .i64 (q2.lv : Nat), .int .u64 (q2.tl : Nat), .int .i64 (q2.ka : Nat), .int .i64 (q2.kb : Nat), .int .i64 (q2.kc : Nat), .int .i64 (q2.kd : Nat)] 103)).setRow (w.heap.size + 1) (F4 q0 q1 q2 Zq) = W3
  have N3 : Hid (NodeSt w W3 p R L F ((k0 : Int) + 1) ((k1 : Int) + 1) ((k2 : Int) + 1) ((k3 : Int) + 1) (F4 q0 q1 q2 Zq)) := by rw [← hW3]; exact Lib.hid (N2.out.step hF.out hb2 _ _)
  have hM3 : (M2 : Int) + min ((cnt L (k2 + 1) : Nat) : Int) (4611686018427387904 - (M2 : Int)) = ((sat M2 (cnt L (k2 + 1)) : Nat) : Int) := by unfold sat; omega
  rw [hM3]
  have B3 : sat M2 (cnt L (k2 + 1)) ≤ 4611686018427387904 := sat_le _ _ (by omega)
  generalize hS3 : sat M2 (cnt L (k2 + 1)) = M3 at *
  have S3 := Lib.hid hS3
  clear hS3 hM3 hW3 hb2 xx2 yy2 f2 N2
  rw [rounds_succ]
  go_wp2_with (first
    | (go_at_call 44; refine (at_okk _ p R L F k3 q3 N3.out.st E3.out).mono ?_; rintro e v3 ⟨rfl, hb3⟩; obtain ⟨g3, c3, x3, y3, z3, u3⟩ := many_at (N3.out.st.below hb3) E3.out; have xx3 := row_far x3 (hF.out p z3); have yy3 := row_far y3 (hF.out g3 u3); clear x3 y3 z3 u3; have f3 := fun X => N3.out.four1 hb3 X)
    | (with_reducible refine wpList_store_seg rfl 103 (.tmp 30) (.tmp 29) rfl (w.heap.size + 1) 18 rfl 107 (F4 q0 q1 q2 Zq) #[.int .i64 (q3.lv : Nat), .int .u64 (q3.tl : Nat), .int .i64 (q3.ka : Nat), .int .i64 (q3.kb : Nat), .int .i64 (q3.kc : Nat), .int .i64 (q3.kd : Nat)] (F4 q0 q1 q2 q3) (f3 _) rfl (by kernel_rfl) (by exact of_decide_eq_true (by kernel_rfl)) (by kernel_rfl) (by kernel_rfl) ?_))
  generalize hW4 : (v3.alloc (.cells #[.int .i64 (q3.lv : Nat), .int .u64 (q3.tl : Nat), .int .i64 (q3.ka : Nat), .int .i64 (q3.kb : Nat), .int .i64 (q3.kc : Nat), .int .i64 (q3.kd : Nat)] 103)).setRow (w.heap.size + 1) (F4 q0 q1 q2 q3) = W4
  have N4 : Hid (NodeSt w W4 p R L F ((k0 : Int) + 1) ((k1 : Int) + 1) ((k2 : Int) + 1) ((k3 : Int) + 1) (F4 q0 q1 q2 q3)) := by rw [← hW4]; exact Lib.hid (N3.out.step hF.out hb3 _ _)
  have hM4 : (M3 : Int) + min ((cnt L (k3 + 1) : Nat) : Int) (4611686018427387904 - (M3 : Int)) = ((sat M3 (cnt L (k3 + 1)) : Nat) : Int) := by unfold sat; omega
  rw [hM4]
  have B4 : sat M3 (cnt L (k3 + 1)) ≤ 4611686018427387904 := sat_le _ _ (by omega)
  generalize hS4 : sat M3 (cnt L (k3 + 1)) = M4 at *
  have S4 := Lib.hid hS4
  clear hS4 hM4 hW4 hb3 xx3 yy3 f3 N3
  have HA : ∀ (W : World) (st : Store W p R L F), Calls Try.prog 43 #[.pointer (some ⟨p, 0, none⟩), .agg #[.int .i64 ((m : Int) + 1), .int .u64 0, .int .i64 ((k0 : Int) + 1), .int .i64 ((k1 : Int) + 1), .int .i64 ((k2 : Int) + 1), .int .i64 ((k3 : Int) + 1)], .int .i64 (M4 : Nat)] W fun e w' => e = .returned (.tuple #[.int .i64 ((addL R L (nodeSq (m + 1) (k0 + 1) (k1 + 1) (k2 + 1) (k3 + 1))).2.1 : Nat), errv (addL R L (nodeSq (m + 1) (k0 + 1) (k1 + 1) (k2 + 1) (k3 + 1))).2.2]) ∧ Acted W w' p R (addL R L (nodeSq (m + 1) (k0 + 1) (k1 + 1) (k2 + 1) (k3 + 1))).1 F := by
    intro W st
    have h := add_any W p R L F (nodeSq (m + 1) (k0 + 1) (k1 + 1) (k2 + 1) (k3 + 1)) (M4 : Nat) st HN.out (by
      have e := HN.out
      rw [← S4.out, ← S3.out, ← S2.out, ← S1.out]
      show _ = (((if m + 1 = 3 then popc 0 else sat (sat (sat (sat 0 (cnt L (k0 + 1))) (cnt L (k1 + 1))) (cnt L (k2 + 1))) (cnt L (k3 + 1))) : Nat) : Int)
      rw [if_neg (by rcases e with e | e; have := e.2.2.1; simp [nodeSq] at this; have := e.1; simp [nodeSq] at this; omega)])
    unfold sqV at h
    simpa [nodeSq] using h
  have HAA := Lib.hid HA
  clear HA S1 S2 S3 S4 HN
  have r0 : W4.cell? ⟨w.heap.size, 0, none⟩ = some (.int .i64 ((k0 : Int) + 1)) := cell_of_row _ _ 0 _ _ _ N4.out.arg
  have r1 : W4.cell? ⟨w.heap.size, 1, none⟩ = some (.int .i64 ((k1 : Int) + 1)) := cell_of_row _ _ 1 _ _ _ N4.out.arg
  have r2 : W4.cell? ⟨w.heap.size, 2, none⟩ = some (.int .i64 ((k2 : Int) + 1)) := cell_of_row _ _ 2 _ _ _ N4.out.arg
  have r3 : W4.cell? ⟨w.heap.size, 3, none⟩ = some (.int .i64 ((k3 : Int) + 1)) := cell_of_row _ _ 3 _ _ _ N4.out.arg
  have r4 : W4.cell? ⟨w.heap.size + 1, 0, none⟩ = some (.int .i64 (q0.lv : Nat)) := cell_of_row _ _ 0 _ _ _ N4.out.four
  have z1 := N4.out.big
  have z2 : w.heap.size < W4.heap.size := Nat.lt_of_succ_lt z1
  have z3 : w.heap.size + 1 < W4.heap.size + 1 := by omega
  have z4 : w.heap.size + 1 < W4.heap.size + 1 + 1 := by omega
  have z5 : w.heap.size + 1 < W4.heap.size + 1 + 1 + 1 := by omega
  have z6 : w.heap.size < W4.heap.size + 1 := by omega
  have z7 : w.heap.size < W4.heap.size + 1 + 1 := by omega
  have z8 : w.heap.size < W4.heap.size + 1 + 1 + 1 := by omega
  have N4f := N4.out.four
  have i0 : ∀ w, (Instr.index 107 (.agg (F4 q0 q1 q2 q3)) (.int .i64 0)).run Try.prog w = .ok (.agg #[.int .i64 (q0.lv : Nat), .int .u64 (q0.tl : Nat), .int .i64 (q0.ka : Nat), .int .i64 (q0.kb : Nat), .int .i64 (q0.kc : Nat), .int .i64 (q0.kd : Nat)]) w := fun _ => by kernel_rfl
  have i1 : ∀ w, (Instr.index 107 (.agg (F4 q0 q1 q2 q3)) (.int .i64 1)).run Try.prog w = .ok (.agg #[.int .i64 (q1.lv : Nat), .int .u64 (q1.tl : Nat), .int .i64 (q1.ka : Nat), .int .i64 (q1.kb : Nat), .int .i64 (q1.kc : Nat), .int .i64 (q1.kd : Nat)]) w := fun _ => by kernel_rfl
  have i2 : ∀ w, (Instr.index 107 (.agg (F4 q0 q1 q2 q3)) (.int .i64 2)).run Try.prog w = .ok (.agg #[.int .i64 (q2.lv : Nat), .int .u64 (q2.tl : Nat), .int .i64 (q2.ka : Nat), .int .i64 (q2.kb : Nat), .int .i64 (q2.kc : Nat), .int .i64 (q2.kd : Nat)]) w := fun _ => by kernel_rfl
  have i3 : ∀ w, (Instr.index 107 (.agg (F4 q0 q1 q2 q3)) (.int .i64 3)).run Try.prog w = .ok (.agg #[.int .i64 (q3.lv : Nat), .int .u64 (q3.tl : Nat), .int .i64 (q3.ka : Nat), .int .i64 (q3.kb : Nat), .int .i64 (q3.kc : Nat), .int .i64 (q3.kd : Nat)]) w := fun _ => by kernel_rfl
  rw [rounds_succ]
  go_wp2_with (with_reducible refine wpList_load_row rfl 107 (.tmp 6) rfl (w.heap.size + 1) rfl 107 (F4 q0 q1 q2 q3) (0, 0) _ N4f Try.underlying107 rfl (by kernel_rfl) ?_)
  clear N4f
  obtain ⟨⟨l0, l1⟩, l2, l3⟩ := HL.out
  refine wp_loop_rounds 5 ?_
  rw [rounds_succ]
  go_wp2
  rw [rounds_succ]
  go_wp2
  rw [rounds_succ]
  go_wp2
  rw [rounds_succ]
  go_wp2
  rw [rounds_succ]
  go_wp2_with (go_at_call 43; refine (HAA.out _ ((((N4.out.st.alloc _).alloc _).alloc _).alloc _)).mono ?_; rintro e w9 ⟨rfl, hb9⟩)
  go_ret2
  exact ⟨rfl, Acted.before' ((((N4.out.keep.alloc (Nat.le_of_lt z2) _).alloc (by rw [World.size_alloc]; omega) _).alloc (by rw [World.size_alloc, World.size_alloc]; omega) _).alloc (by rw [World.size_alloc, World.size_alloc, World.size_alloc]; omega) _) hb9⟩

end Go.Proofs.Ytmabgfdibbidcaa
