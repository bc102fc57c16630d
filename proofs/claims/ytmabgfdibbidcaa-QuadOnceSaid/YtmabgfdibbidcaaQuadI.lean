/- Contracts of package quad: New; Node, whatever the four are; Empty. -/
import Derived.Test.YtmabgfdibbidcaaQuadH
import Derived.LoopTactic
namespace Go.Proofs.Ytmabgfdibbidcaa
open Go.RowKit

theorem at_cases (L : List Sq) (a : Int) : (∃ (k : Nat) (q : Sq), a = (k : Int) + 1 ∧ L[k]? = some q ∧ k < L.length ∧ at? L a.toNat = some q) ∨ ((a < 1 ∨ (L.length : Int) < a) ∧ at? L a.toNat = none) := by
  by_cases h : 1 ≤ a ∧ a ≤ L.length
  · obtain ⟨k, hk⟩ : ∃ k : Nat, a = (k : Int) + 1 := ⟨(a - 1).toNat, by omega⟩
    have hl : k < L.length := by omega
    refine .inl ⟨k, L[k], hk, List.getElem?_eq_getElem hl, hl, ?_⟩
    rw [hk, show ((k : Int) + 1).toNat = k + 1 by omega]
    exact List.getElem?_eq_getElem hl
  · exact .inr ⟨by omega, at?_none (by omega)⟩
theorem nodeL_none {R : Nat} {L : List Sq} {a b c d : Nat} (h : at? L a = none ∨ at? L b = none ∨ at? L c = none ∨ at? L d = none) : nodeL R L a b c d = (L, 0, 8) := by
  unfold nodeL
  split
  · rename_i h1 h2 h3 h4
    rcases h with h | h | h | h <;> simp_all
  · rfl

/-- Node: what the list's act says. -/
theorem node_any (w : World) (p R : Nat) (L : List Sq) (F : Nat → Prop) (a b c d : Int) (hs : Store w p R L F) :
    Calls Try.prog 18 #[.pointer (some ⟨p, 0, none⟩), .agg #[.int .i64 a, .int .i64 b, .int .i64 c, .int .i64 d]] w fun e w' =>
      e = .returned (.tuple #[.int .i64 ((nodeL R L a.toNat b.toNat c.toNat d.toNat).2.1 : Nat), errv (nodeL R L a.toNat b.toNat c.toNat d.toNat).2.2]) ∧ Acted w w' p R (nodeL R L a.toNat b.toNat c.toNat d.toNat).1 F := by
  have same : ∀ (r : Nat) {f : Nat} {args : Array Value}, (Calls Try.prog f args w fun e w' => e = .returned (.tuple #[.int .i64 0, errv r]) ∧ Below w.heap.size w w') → ∀ x : List Sq × Nat × Nat, x = (L, 0, r) →
      Calls Try.prog f args w fun e w' => e = .returned (.tuple #[.int .i64 (x.2.1 : Nat), errv x.2.2]) ∧ Acted w w' p R x.1 F := fun r f args h x hx => by
    rw [hx]
    exact h.mono fun e w' k => ⟨k.1, Acted.same hs k.2⟩
  rcases at_cases L a with ⟨k0, q0, rfl, e0, t0, x0⟩ | ⟨h0, x0⟩
  · rcases at_cases L b with ⟨k1, q1, rfl, e1, t1, x1⟩ | ⟨h1, x1⟩
    · rcases at_cases L c with ⟨k2, q2, rfl, e2, t2, x2⟩ | ⟨h2, x2⟩
      · rcases at_cases L d with ⟨k3, q3, rfl, e3, t3, x3⟩ | ⟨h3, x3⟩
        · have n : ∀ k : Nat, ((k : Int) + 1).toNat = k + 1 := fun k => by omega
          rw [n, n, n, n]
          by_cases h1 : q1.lv = q0.lv
          · by_cases h2 : q2.lv = q0.lv
            · by_cases h3 : q3.lv = q0.lv
              · by_cases hm : q0.lv < 40
                · exact qnode_ok w p R L F k0 k1 k2 k3 q0 q1 q2 q3 q0.lv hs e0 t0 e1 t1 e2 t2 e3 t3 rfl h1 h2 h3 hm
                · refine same 6 (qnode_limit w p R L F k0 k1 k2 k3 q0 q1 q2 q3 q0.lv hs e0 t0 e1 t1 e2 t2 e3 t3 rfl h1 h2 h3 (by omega)) _ ?_
                  rw [n] at x0 x1 x2 x3
                  simp [nodeL, x0, x1, x2, x3, h1, h2, h3]
                  omega
              · refine same 1 (qnode_part3 w p R L F k0 k1 k2 k3 q0 q1 q2 q3 q0.lv hs e0 t0 e1 t1 e2 t2 e3 t3 rfl h1 h2 h3) _ ?_
                rw [n] at x0 x1 x2 x3
                simp [nodeL, x0, x1, x2, x3, h3]
            · refine same 1 (qnode_part2 w p R L F k0 k1 k2 k3 q0 q1 q2 q3 q0.lv hs e0 t0 e1 t1 e2 t2 e3 t3 rfl h1 h2) _ ?_
              rw [n] at x0 x1 x2 x3
              simp [nodeL, x0, x1, x2, x3, h2]
          · refine same 1 (qnode_part1 w p R L F k0 k1 k2 k3 q0 q1 q2 q3 q0.lv hs e0 t0 e1 t1 e2 t2 e3 t3 rfl h1) _ ?_
            rw [n] at x0 x1 x2 x3
            simp [nodeL, x0, x1, x2, x3, h1]
        · exact same 8 (qnode_none3 w p R L F k0 k1 k2 q0 q1 q2 d hs e0 t0 e1 t1 e2 t2 h3) _ (nodeL_none (.inr (.inr (.inr x3))))
      · exact same 8 (qnode_none2 w p R L F k0 k1 q0 q1 c d hs e0 t0 e1 t1 h2) _ (nodeL_none (.inr (.inr (.inl x2))))
    · exact same 8 (qnode_none1 w p R L F k0 q0 b c d hs e0 t0 h1) _ (nodeL_none (.inr (.inl x1)))
  · exact same 8 (qnode_none0 w p R L F a b c d hs h0) _ (nodeL_none (.inl x0))

theorem new_store (w : World) (R : Nat) (h2 : R ≤ 65536) :
    Store ((w.alloc (.map #[] 0)).alloc (.cells #[.int .i64 (R : Nat), .slice none 0 0, .slice none 0 0, .map (some w.heap.size)] 100)) (w.heap.size + 1) R [] (fun i => w.heap.size ≤ i ∧ i < w.heap.size + 2) := by
  refine ⟨⟨.slice none 0 0, .slice none 0 0, w.heap.size, ⟨last_block _ _ _ (by simp), World.ownsRow_nil _ _ _ _, World.ownsRow_nil _ _ _ _, (Below.heap_alloc _ _ _ (by simp)).trans (heap_alloc_new w _), by simp [Value.ownBlock], by simp [Value.ownBlock], .inl rfl, WF.nil, Nat.zero_le _, h2⟩, ?_⟩, ?_⟩
  · rintro i (rfl | rfl | h | h)
    · omega
    · omega
    · cases h
    · cases h
  · intro i hi
    simp
    omega
set_option maxRecDepth 100000 in
set_option maxHeartbeats 1000000 in
theorem new_ok (w : World) (R : Nat) (h1 : 1 ≤ R) (h2 : R ≤ 65536) :
    Calls Try.prog 14 #[.int .i64 (R : Nat)] w fun e w' => e = .returned (.tuple #[.pointer (some ⟨w.heap.size + 1, 0, none⟩), .nilIface]) ∧
      w' = (w.alloc (.map #[] 0)).alloc (.cells #[.int .i64 (R : Nat), .slice none 0 0, .slice none 0 0, .map (some w.heap.size)] 100) := by
  have hmm := @run_makeMap Try.prog
  have i1 : (1 : Int) ≤ (R : Nat) := by omega
  have i2 : ((R : Nat) : Int) ≤ 65536 := by omega
  clear h1 h2
  go_enter Try.func14, Try.ntmps14
  go_wp2
  go_ret2
  exact ⟨rfl, rfl⟩
set_option maxRecDepth 100000 in
set_option maxHeartbeats 1000000 in
theorem new_bad (w : World) (R : Int) (h : R < 1 ∨ 65536 < R) :
    Calls Try.prog 14 #[.int .i64 R] w fun e w' => e = .returned (.tuple #[.pointer none, errv 1]) ∧ w = w' := by
  by_cases h1 : R < 1
  · clear h
    go_enter Try.func14, Try.ntmps14
    go_wp2
    go_ret2
    exact ⟨rfl, rfl⟩
  · have h2 : 65536 < R := by omega
    clear h
    go_enter Try.func14, Try.ntmps14
    go_wp2
    go_ret2
    exact ⟨rfl, rfl⟩

theorem errv_succ (d : Nat) : errv (d + 1) = .iface 96 (.int .i64 ((d + 1 : Nat) : Int)) := rfl
theorem emptyL_stuck (R : Nat) (L : List Sq) (n : Nat) (h : (emptyL R L n).2.2 ≠ 0) : ∀ d, emptyL R L (n + d) = emptyL R L n
  | 0 => rfl
  | d + 1 => by
    have ih := emptyL_stuck R L n h d
    show (if (emptyL R L (n + d)).2.2 = 0 then _ else emptyL R L (n + d)) = _
    rw [ih, if_neg h]
def EmptyRel (R : Nat) (L : List Sq) (n : Nat) (id err : Value) : Prop := id = .int .i64 ((emptyL R L n).2.1 : Nat) ∧ err = errv (emptyL R L n).2.2

set_option maxRecDepth 100000 in
set_option maxHeartbeats 4000000 in
theorem empty_any (w : World) (p R : Nat) (L : List Sq) (F : Nat → Prop) (n : Nat) (hs : Store w p R L F) (hn : n ≤ 37) :
    Calls Try.prog 23 #[.pointer (some ⟨p, 0, none⟩), .int .i64 ((n : Int) + 3)] w fun e w' =>
      e = .returned (.tuple #[.int .i64 ((emptyL R L n).2.1 : Nat), errv (emptyL R L n).2.2]) ∧ Acted w w' p R (emptyL R L n).1 F := by
  have H0 := Lib.hid (leaf_any w p R L F 0 hs (by omega))
  have Hs := Lib.hid hs
  clear hs
  have i1 : (n : Int) ≤ 37 := by omega
  clear hn
  go_enter Try.func23, Try.ntmps23
  go_wp2_with (go_at_call 15; refine H0.out.mono ?_; rintro e w1 ⟨rfl, ha1⟩)
  go_loopw [6, 7, 8] (fun id err k wr => ∃ j : Nat, j ≤ n ∧ k = .int .i64 ((j : Int) + 3) ∧ id = .int .i64 ((emptyL R L j).2.1 : Nat) ∧ err = errv (emptyL R L j).2.2 ∧ Acted w wr p R (emptyL R L j).1 F) (fun _ _ k _ => (n + 3 - (intOf k)).toNat)
  case atStart => exact ⟨0, Nat.zero_le _, rfl, rfl, rfl, ha1⟩
  case round =>
    obtain ⟨j, hj, rfl, rfl, rfl, hA⟩ := hrel
    have hnext := fun h => (show emptyL R L (j + 1) = _ from if_pos (c := (emptyL R L j).2.2 = 0) h)
    have hst := fun h => emptyL_stuck R L j h (n - j)
    rw [show j + (n - j) = n by omega] at hst
    have HX := Lib.hid (And.intro hnext hst)
    clear hnext hst
    by_cases hlt : j < n
    · by_cases h0 : (emptyL R L j).2.2 = 0
      · have hN := node_any wr p R (emptyL R L j).1 _ ((emptyL R L j).2.1 : Nat) ((emptyL R L j).2.1 : Nat) ((emptyL R L j).2.1 : Nat) ((emptyL R L j).2.1 : Nat) hA.st
        simp only [Int.toNat_natCast] at hN
        rw [h0, errv_zero]
        have HN := Lib.hid hN
        have HH := Lib.hid h0
        have HA := Lib.hid hA
        clear hN h0 hA
        go_wp2_with (go_at_call 18; refine HN.out.mono ?_; rintro e w2 ⟨rfl, ha2⟩)
        go_roundw
        case rel => exact ⟨j + 1, by omega, by go_num, by rw [HX.out.1 HH.out], by rw [HX.out.1 HH.out], by rw [HX.out.1 HH.out]; exact HA.out.then ha2⟩
        case measure => simp [intOf]; omega
      · have hfin := HX.out.2 h0
        obtain ⟨d, hd⟩ : ∃ d, (emptyL R L j).2.2 = d + 1 := ⟨(emptyL R L j).2.2 - 1, by omega⟩
        rw [hd, errv_succ]
        have HA := Lib.hid hA
        have HD := Lib.hid hd
        have HF := Lib.hid hfin
        clear hA h0 hd hfin
        go_wp2
        go_ret2
        exact ⟨by rw [HF.out, HD.out]; rfl, by rw [HF.out]; exact HA.out⟩
    · obtain rfl : j = n := by omega
      have HA := Lib.hid hA
      clear hA HX
      generalize hev : errv (emptyL R L j).2.2 = ev
      have HE := Lib.hid hev
      clear hev
      go_wp2
      go_ret2
      exact ⟨by rw [HE.out]; rfl, HA.out⟩
theorem empty_bad (w : World) (v : Value) (l : Int) (hv : v = .pointer none ∨ (∃ a, v = .pointer (some a)) ∧ (l < 3 ∨ 40 < l)) :
    Calls Try.prog 23 #[v, .int .i64 l] w fun e w' => e = .returned (.tuple #[.int .i64 0, errv 1]) ∧ w = w' := by
  rcases hv with rfl | ⟨⟨a, rfl⟩, h | h⟩
  · go_enter Try.func23, Try.ntmps23
    go_wp2
    go_ret2
    exact ⟨rfl, rfl⟩
  · go_enter Try.func23, Try.ntmps23
    go_wp2
    go_ret2
    exact ⟨rfl, rfl⟩
  · have h3 : ¬ l < 3 := by omega
    go_enter Try.func23, Try.ntmps23
    go_wp2
    go_ret2
    exact ⟨rfl, rfl⟩
end Go.Proofs.Ytmabgfdibbidcaa
