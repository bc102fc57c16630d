/- Contracts of package quad: Get of a cell. -/
import Derived.Test.YtmabgfdibbidcaaQuadJ
import Derived.StillTailTactics
import Derived.IntWalk
import Derived.Test.YtmabgfdibbidcaaMask
namespace Go.Proofs.Ytmabgfdibbidcaa
open Go.RowKit

/-- A square's cell, by the square's level. -/
def alvH (L : List Sq) (h id x y : Nat) : Bool := alv L (h - 3) id x y
theorem alvH_node {L : List Sq} {id : Nat} {q : Sq} (hq : at? L id = some q) {h : Nat} (hh : 3 ≤ h) (x y : Nat) : alvH L (h + 1) id x y = alvH L h (kidOf q (x / 2 ^ h + 2 * (y / 2 ^ h))) (x % 2 ^ h) (y % 2 ^ h) := by
  obtain ⟨n, rfl⟩ : ∃ n, h = n + 3 := ⟨h - 3, by omega⟩
  unfold alvH
  rw [show n + 3 + 1 - 3 = n + 1 by omega, show n + 3 - 3 = n by omega]
  exact alv_node hq n x y
theorem lt_two {a : Nat} (h : a < 2) : a = 0 ∨ a = 1 := by omega
/-- The level in a block that holds a square. -/
def lvAt (gb : Nat) (w : World) : Nat :=
  match w.heap[gb]? with
  | some (.cells cs _ _) => (intOf (cs.getD 0 undef)).toNat
  | _ => 0
theorem lvAt_row {w : World} {gb : Nat} {cs : Array Value} {t : TypeId} {fr : Nat × Nat} (h : w.heap[gb]? = some (.cells cs t fr)) : lvAt gb w = (intOf (cs.getD 0 undef)).toNat := by
  unfold lvAt
  rw [h]
theorem kid_at {L : List Sq} (hw : WF L) {id : Nat} {q : Sq} (hq : at? L id = some q) {h : Nat} (hl : q.lv = h + 1) (hh : 3 ≤ h) (i : Nat) : ∃ (k : Nat) (r : Sq), kidOf q i = k + 1 ∧ L[k]? = some r ∧ r.lv = h ∧ k < L.length := by
  obtain ⟨n, rfl⟩ : ∃ n, h = n + 3 := ⟨h - 3, by omega⟩
  obtain ⟨r, h1, h2⟩ := hw.kid hq (by omega : q.lv = n + 1 + 3) i
  obtain ⟨k, hk⟩ : ∃ k, kidOf q i = k + 1 := ⟨kidOf q i - 1, by have := at?_pos h1; omega⟩
  rw [hk] at h1
  exact ⟨k, r, hk, h1, h2, at?_le h1⟩

set_option maxRecDepth 100000 in
set_option maxHeartbeats 8000000 in
theorem get_ok (w : World) (p R : Nat) (L : List Sq) (F : Nat → Prop) (k : Nat) (q : Sq) (x y : Nat) (hs : Store w p R L F) (hq : L[k]? = some q) (hx : x < 2 ^ q.lv) (hy : y < 2 ^ q.lv) :
    Calls Try.prog 20 #[.pointer (some ⟨p, 0, none⟩), .int .i64 ((k : Int) + 1), .int .i64 (x : Nat), .int .i64 (y : Nat)] w fun e w' => e = .returned (.tuple #[.bool (alvH L q.lv (k + 1) x y), .nilIface]) ∧ Below w.heap.size w w' := by
  have HH := Lib.hid (cell_ok w p R L F k q x y hs hq hx hy)
  have Hs := Lib.hid hs
  have hlv := hs.wf.lv (k := k + 1) hq
  have HQ := Lib.hid (And.intro hq (And.intro hx (And.intro hy hlv)))
  clear hs hq hx hy hlv
  go_enter Try.func20, Try.ntmps20
  go_wp2_with (go_at_call 46; refine HH.out.mono ?_; rintro e w1 ⟨rfl, hb1⟩; unfold sqV)
  go_name_world W hW
  have hgb : W.heap[w1.heap.size]? = some (.cells #[.int .i64 (q.lv : Nat), .int .u64 (q.tl : Nat), .int .i64 (q.ka : Nat), .int .i64 (q.kb : Nat), .int .i64 (q.kc : Nat), .int .i64 (q.kd : Nat)] 103 (0, 0)) := by rw [← hW]; exact heap_alloc_new w1 _
  have hB : Below w.heap.size w W := by rw [← hW]; exact hb1.trans ((Below.refl _ _).alloc hb1.size _)
  have hz := hb1.size
  clear hW hb1
  generalize w1.heap.size = gb at *
  go_loopw [2, 3] (fun vx vy wr => ∃ (c : Nat) (r : Sq) (x' y' : Nat), vx = .int .i64 (x' : Nat) ∧ vy = .int .i64 (y' : Nat) ∧ L[c]? = some r ∧ x' < 2 ^ r.lv ∧ y' < 2 ^ r.lv ∧ alvH L r.lv (c + 1) x' y' = alvH L q.lv (k + 1) x y ∧
      wr.heap[gb]? = some (.cells #[.int .i64 (r.lv : Nat), .int .u64 (r.tl : Nat), .int .i64 (r.ka : Nat), .int .i64 (r.kb : Nat), .int .i64 (r.kc : Nat), .int .i64 (r.kd : Nat)] 103 (0, 0)) ∧ Below w.heap.size w wr)
    (fun _ _ wr => lvAt gb wr)
  case atStart => exact ⟨k, q, x, y, rfl, rfl, HQ.out.1, HQ.out.2.1, HQ.out.2.2.1, rfl, hgb, hB⟩
  case round =>
    obtain ⟨c, r, x', y', rfl, rfl, hc, hx', hy', hal, hrb, hBr⟩ := hrel
    have hlv := Hs.out.wf.lv (k := c + 1) hc
    have hsr := Hs.out.below hBr
    have HR := Lib.hid (And.intro hc (And.intro hal hrb))
    have HBr := Lib.hid hBr
    have HSr := Lib.hid hsr
    have b0 : wr.cell? ⟨gb, 0, none⟩ = some (.int .i64 (r.lv : Nat)) := cell_of_row _ _ 0 _ _ _ hrb
    have b1 : wr.cell? ⟨gb, 1, none⟩ = some (.int .u64 (r.tl : Nat)) := cell_of_row _ _ 1 _ _ _ hrb
    have b2 : wr.cell? ⟨gb, 2, none⟩ = some (.int .i64 (r.ka : Nat)) := cell_of_row _ _ 2 _ _ _ hrb
    have b3 : wr.cell? ⟨gb, 3, none⟩ = some (.int .i64 (r.kb : Nat)) := cell_of_row _ _ 3 _ _ _ hrb
    have b4 : wr.cell? ⟨gb, 4, none⟩ = some (.int .i64 (r.kc : Nat)) := cell_of_row _ _ 4 _ _ _ hrb
    have b5 : wr.cell? ⟨gb, 5, none⟩ = some (.int .i64 (r.kd : Nat)) := cell_of_row _ _ 5 _ _ _ hrb
    by_cases h3 : r.lv = 3
    · obtain ⟨e1, e2⟩ := Hs.out.wf.tile (k := c + 1) hc h3
      have HT : ∀ w, Calls Try.prog 21 #[.int .u64 (r.tl : Nat), .int .i64 (x' : Nat), .int .i64 (y' : Nat)] w fun e w' => e = .returned (.tuple #[.bool (r.tl.testBit (8 * y' + x')), .nilIface]) ∧ w = w' := fun w => by
        rw [h3] at hx' hy'
        have := tget_in (r.tl : Nat) (x' : Nat) (y' : Nat) w ⟨by omega, by omega, by omega, by omega⟩ ⟨by omega, by omega⟩
        simpa using this
      have HTT := Lib.hid HT
      have hfin : r.tl.testBit (8 * y' + x') = alvH L q.lv (k + 1) x y := by
        rw [← hal, h3]
        exact (alv_leaf (L := L) (id := c + 1) hc x' y').symm
      have HF := Lib.hid hfin
      rw [h3] at b0
      clear hfin HT hc hal hrb hBr hsr e1 e2 hx' hy' hlv h3
      go_wp2_with (go_at_call 21; refine (HTT.out _).mono ?_; rintro e w2 ⟨rfl, rfl⟩)
      go_ret2
      exact ⟨by rw [← HF.out]; rfl, HBr.out⟩
    · have hx40 : x' < 2 ^ 40 := Nat.lt_of_lt_of_le hx' (Nat.pow_le_pow_right (by decide) hlv.2)
      have hy40 : y' < 2 ^ 40 := Nat.lt_of_lt_of_le hy' (Nat.pow_le_pow_right (by decide) hlv.2)
      obtain ⟨h, hh⟩ : ∃ h, r.lv = h + 1 := ⟨r.lv - 1, by omega⟩
      have hh3 : 3 ≤ h := by omega
      have hh9 : h ≤ 39 := by omega
      have dx : x' / 2 ^ h < 2 := Nat.div_lt_of_lt_mul (by rw [hh, Nat.pow_succ] at hx'; exact hx')
      have dy : y' / 2 ^ h < 2 := Nat.div_lt_of_lt_mul (by rw [hh, Nat.pow_succ] at hy'; exact hy')
      have mx : x' % 2 ^ h < 2 ^ h := Nat.mod_lt _ (Nat.pow_pos (by decide))
      have my : y' % 2 ^ h < 2 ^ h := Nat.mod_lt _ (Nat.pow_pos (by decide))
      have hnode := alvH_node (L := L) (id := c + 1) hc hh3 x' y'
      obtain ⟨kk, rr, hk1, hk2, hk3, hk4⟩ := kid_at Hs.out.wf (id := c + 1) hc hh hh3 (x' / 2 ^ h + 2 * (y' / 2 ^ h))
      rw [hk1] at hnode
      obtain ⟨lv, mv, kb, hst, hFt⟩ := HSr.out.at'
      obtain ⟨gl, cap, rfl, hrg, hgl⟩ := hst.lv_at hk2
      obtain ⟨c0, c1, c2, c3⟩ := hst.cells
      obtain ⟨s0, s1, s2, s3, s4, s5⟩ := range_six hrg
      rw [hk3] at s0
      rw [hh] at b0
      have hlen := HSr.out.len
      have hpow := Lib.hid (Nat.pow_le_pow_right (n := 2) (by decide) hh9)
      have i3 : (3 : Int) ≤ (h : Nat) := by omega
      have i9 : ((h : Nat) : Int) ≤ 39 := by omega
      have hal2 : alvH L (h + 1) (c + 1) x' y' = alvH L q.lv (k + 1) x y := by rw [← hh]; exact hal
      have HQ2 := Lib.hid (And.intro hk2 (And.intro hk3 (And.intro mx (And.intro my (hnode.symm.trans hal2)))))
      clear hal2
      have ex0 : (x' : Int) / 2 ^ h = ((x' / 2 ^ h : Nat) : Int) := by simp
      have ey0 : (y' : Int) / 2 ^ h = ((y' / 2 ^ h : Nat) : Int) := by simp
      have v0 : IntKind.i64.wrap 0 = 0 := by decide
      have v1 : IntKind.i64.wrap 1 = 1 := by decide
      have v2 : IntKind.i64.wrap 2 = 2 := by decide
      have v3 : IntKind.i64.wrap 3 = 3 := by decide
      have vk : IntKind.i64.wrap (kk : Nat) = (kk : Nat) := IntWalk.i64_in _ (by omega)
      have mxe := mask_nat x' h (by omega) hh9
      have mye := mask_nat y' h (by omega) hh9
      have HLV := Lib.hid hh
      clear hx40 hy40
      clear hst hFt hrg hk2 hk3 hc hal hrb hBr hsr hnode hx' hy' hlv h3 hh mx my c0 c2 c3
      rcases lt_two dx with ex | ex <;> rcases lt_two dy with ey | ey
      · rw [ex, ey] at hk1
        rw [ex] at ex0
        rw [ey] at ey0
        have hk1' : r.ka = kk + 1 := hk1
        rw [hk1'] at b2
        clear ex ey hk1 hk1' dx dy
        go_upto_region 6 with fail
        go_still_tail 18, (by kernel_rfl)
        clear b0 b1 b2 b3 b4 b5 c1 s0 s1 s2 s3 s4 s5 v0 v1 v2 v3 vk ex0 ey0
        go_wp2_with (with_reducible refine wpList_store_row rfl 103 (.tmp 10) (.tmp 47) rfl gb rfl 103 _ #[.int .i64 (h : Nat), .int .u64 (rr.tl : Nat), .int .i64 (rr.ka : Nat), .int .i64 (rr.kb : Nat), .int .i64 (rr.kc : Nat), .int .i64 (rr.kd : Nat)] HR.out.2.2 rfl (by kernel_rfl) (by kernel_rfl) (by kernel_rfl) ?_)
        go_quiet (fail)
        go_wp2
        go_roundw
        case rel => exact ⟨kk, rr, x' % 2 ^ h, y' % 2 ^ h, rfl, rfl, HQ2.out.1, by rw [HQ2.out.2.1]; exact HQ2.out.2.2.1, by rw [HQ2.out.2.1]; exact HQ2.out.2.2.2.1, by rw [HQ2.out.2.1]; exact HQ2.out.2.2.2.2, by rw [HQ2.out.2.1]; exact setRow_heap _ _ _ _ _ _ HR.out.2.2, bel_drewN (bel_setRow (below_drewN HBr.out 1) hz _) _⟩
        case measure =>
          refine Nat.lt_of_le_of_lt (Nat.le_of_eq (lvAt_row (setRow_heap _ _ _ _ _ _ HR.out.2.2))) ?_
          rw [lvAt_row HR.out.2.2]
          have := HLV.out
          simp [intOf]
          omega
      · rw [ex, ey] at hk1
        rw [ex] at ex0
        rw [ey] at ey0
        have hk1' : r.kc = kk + 1 := hk1
        rw [hk1'] at b4
        clear ex ey hk1 hk1' dx dy
        go_upto_region 6 with fail
        go_still_tail 18, (by kernel_rfl)
        clear b0 b1 b2 b3 b4 b5 c1 s0 s1 s2 s3 s4 s5 v0 v1 v2 v3 vk ex0 ey0
        go_wp2_with (with_reducible refine wpList_store_row rfl 103 (.tmp 10) (.tmp 47) rfl gb rfl 103 _ #[.int .i64 (h : Nat), .int .u64 (rr.tl : Nat), .int .i64 (rr.ka : Nat), .int .i64 (rr.kb : Nat), .int .i64 (rr.kc : Nat), .int .i64 (rr.kd : Nat)] HR.out.2.2 rfl (by kernel_rfl) (by kernel_rfl) (by kernel_rfl) ?_)
        go_quiet (fail)
        go_wp2
        go_roundw
        case rel => exact ⟨kk, rr, x' % 2 ^ h, y' % 2 ^ h, rfl, rfl, HQ2.out.1, by rw [HQ2.out.2.1]; exact HQ2.out.2.2.1, by rw [HQ2.out.2.1]; exact HQ2.out.2.2.2.1, by rw [HQ2.out.2.1]; exact HQ2.out.2.2.2.2, by rw [HQ2.out.2.1]; exact setRow_heap _ _ _ _ _ _ HR.out.2.2, bel_drewN (bel_setRow (below_drewN HBr.out 1) hz _) _⟩
        case measure =>
          refine Nat.lt_of_le_of_lt (Nat.le_of_eq (lvAt_row (setRow_heap _ _ _ _ _ _ HR.out.2.2))) ?_
          rw [lvAt_row HR.out.2.2]
          have := HLV.out
          simp [intOf]
          omega
      · rw [ex, ey] at hk1
        rw [ex] at ex0
        rw [ey] at ey0
        have hk1' : r.kb = kk + 1 := hk1
        rw [hk1'] at b3
        clear ex ey hk1 hk1' dx dy
        go_upto_region 6 with fail
        go_still_tail 18, (by kernel_rfl)
        clear b0 b1 b2 b3 b4 b5 c1 s0 s1 s2 s3 s4 s5 v0 v1 v2 v3 vk ex0 ey0
        go_wp2_with (with_reducible refine wpList_store_row rfl 103 (.tmp 10) (.tmp 47) rfl gb rfl 103 _ #[.int .i64 (h : Nat), .int .u64 (rr.tl : Nat), .int .i64 (rr.ka : Nat), .int .i64 (rr.kb : Nat), .int .i64 (rr.kc : Nat), .int .i64 (rr.kd : Nat)] HR.out.2.2 rfl (by kernel_rfl) (by kernel_rfl) (by kernel_rfl) ?_)
        go_quiet (fail)
        go_wp2
        go_roundw
        case rel => exact ⟨kk, rr, x' % 2 ^ h, y' % 2 ^ h, rfl, rfl, HQ2.out.1, by rw [HQ2.out.2.1]; exact HQ2.out.2.2.1, by rw [HQ2.out.2.1]; exact HQ2.out.2.2.2.1, by rw [HQ2.out.2.1]; exact HQ2.out.2.2.2.2, by rw [HQ2.out.2.1]; exact setRow_heap _ _ _ _ _ _ HR.out.2.2, bel_drewN (bel_setRow (below_drewN HBr.out 1) hz _) _⟩
        case measure =>
          refine Nat.lt_of_le_of_lt (Nat.le_of_eq (lvAt_row (setRow_heap _ _ _ _ _ _ HR.out.2.2))) ?_
          rw [lvAt_row HR.out.2.2]
          have := HLV.out
          simp [intOf]
          omega
      · rw [ex, ey] at hk1
        rw [ex] at ex0
        rw [ey] at ey0
        have hk1' : r.kd = kk + 1 := hk1
        rw [hk1'] at b5
        clear ex ey hk1 hk1' dx dy
        go_upto_region 6 with fail
        go_still_tail 18, (by kernel_rfl)
        clear b0 b1 b2 b3 b4 b5 c1 s0 s1 s2 s3 s4 s5 v0 v1 v2 v3 vk ex0 ey0
        go_wp2_with (with_reducible refine wpList_store_row rfl 103 (.tmp 10) (.tmp 47) rfl gb rfl 103 _ #[.int .i64 (h : Nat), .int .u64 (rr.tl : Nat), .int .i64 (rr.ka : Nat), .int .i64 (rr.kb : Nat), .int .i64 (rr.kc : Nat), .int .i64 (rr.kd : Nat)] HR.out.2.2 rfl (by kernel_rfl) (by kernel_rfl) (by kernel_rfl) ?_)
        go_quiet (fail)
        go_wp2
        go_roundw
        case rel => exact ⟨kk, rr, x' % 2 ^ h, y' % 2 ^ h, rfl, rfl, HQ2.out.1, by rw [HQ2.out.2.1]; exact HQ2.out.2.2.1, by rw [HQ2.out.2.1]; exact HQ2.out.2.2.2.1, by rw [HQ2.out.2.1]; exact HQ2.out.2.2.2.2, by rw [HQ2.out.2.1]; exact setRow_heap _ _ _ _ _ _ HR.out.2.2, bel_drewN (bel_setRow (below_drewN HBr.out 1) hz _) _⟩
        case measure =>
          refine Nat.lt_of_le_of_lt (Nat.le_of_eq (lvAt_row (setRow_heap _ _ _ _ _ _ HR.out.2.2))) ?_
          rw [lvAt_row HR.out.2.2]
          have := HLV.out
          simp [intOf]
          omega
end Go.Proofs.Ytmabgfdibbidcaa
