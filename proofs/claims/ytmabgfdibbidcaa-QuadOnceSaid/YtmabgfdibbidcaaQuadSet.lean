/- Contracts of package quad: Set of a cell (printed by gen_qset.py). -/
import Derived.Test.YtmabgfdibbidcaaQuadK
import Derived.BigQuiet
import Derived.Deep.RegionHeld3
namespace Go.Proofs.Ytmabgfdibbidcaa
open Go.RowKit

theorem heap_lt' {W : World} {b : Nat} {o : Obj} (h : W.heap[b]? = some o) : b < W.heap.size := (Array.getElem?_eq_some_iff.1 h).1
/-- A box of the callee's own is written to after the store acted. -/
theorem Acted.box {w W W1 W2 : World} {p R gb : Nat} {L : List Sq} {F : Nat → Prop} (hb : Below w.heap.size w W) (hg : w.heap.size ≤ gb) (hg2 : gb < W.heap.size) (hF : ∀ i, F i → i < w.heap.size)
    (h : Acted W W1 p R L F) (k : Keep (fun i => i = gb) W1 W2) : Acted w W2 p R L F := by
  have hs : Store W2 p R L (Gr F W W1) := h.st.kept k fun i hi => by
    rcases hi with hi | hi
    · have := hF i hi; omega
    · omega
  have hz := h.keep.size
  have hz2 := k.size
  refine ⟨hs.more (fun i hi => ?_) (fun i hi => ?_), ?_⟩
  · rcases hi with hi | hi
    · exact .inl hi
    · exact .inr ⟨Nat.le_trans hb.size hi.1, Nat.lt_of_lt_of_le hi.2 hz2⟩
  · rcases hi with hi | hi
    · have := hF i hi; have := hb.size; omega
    · exact hi.2
  · have k1 : Keep F w W1 := (h.before hb).keep
    exact ⟨k.os.trans k1.os, k.tape.trans k1.tape, k.output.trans k1.output, Nat.le_trans k1.size hz2, fun i hi hf => (k.block i (by have := k1.size; omega) (by omega)).trans (k1.block i hi hf)⟩
theorem Acted.row {W W' V : World} {p R gb : Nat} {M : List Sq} {F : Nat → Prop} (h : Acted W W' p R M F) (e : W.heap = V.heap) {o : Obj} (hv : V.heap[gb]? = some o) (hf : ¬ F gb) : W'.heap[gb]? = some o := by
  have hz := heap_lt' hv
  rw [h.keep.block gb (by rw [e]; exact hz) hf, e]
  exact hv
theorem tset_nat (t x y : Nat) (v : Bool) (w : World) (ht : t < 18446744073709551616) (hx : x < 8) (hy : y < 8) : Calls Try.prog 48 #[.int .u64 (t : Nat), .int .i64 (x : Nat), .int .i64 (y : Nat), .bool v] w fun e w' => e = .returned (.tuple #[.int .u64 (tsetN t x y v : Nat), .nilIface]) ∧ w = w' := by
  have := tset_in (t : Nat) (x : Nat) (y : Nat) v w ⟨by omega, by omega, by omega, by omega⟩ ⟨by omega, by omega⟩
  unfold tset at this
  simp only [Int.toNat_natCast] at this
  exact this

set_option maxRecDepth 100000 in
set_option maxHeartbeats 4000000 in
theorem set_leaf (w : World) (p R : Nat) (L : List Sq) (F : Nat → Prop) (k : Nat) (q : Sq) (x y : Nat) (v : Bool) (hs : Store w p R L F) (hq : L[k]? = some q) (hl : q.lv = 3) (hx : x < 8) (hy : y < 8) :
    Calls Try.prog 22 #[.pointer (some ⟨p, 0, none⟩), .int .i64 ((k : Int) + 1), .int .i64 (x : Nat), .int .i64 (y : Nat), .bool v] w fun e w' =>
      e = .returned (.tuple #[.int .i64 ((leafL R L (tsetN q.tl x y v)).2.1 : Nat), errv (leafL R L (tsetN q.tl x y v)).2.2]) ∧ Acted w w' p R (leafL R L (tsetN q.tl x y v)).1 F := by
  have HH := Lib.hid (cell_ok w p R L F k q x y hs hq (by rw [hl]; exact hx) (by rw [hl]; exact hy))
  have hq1 : at? L (k + 1) = some q := hq
  have ht := (hs.wf.tile hq1 hl).2
  have HT := Lib.hid (fun W => tset_nat q.tl x y v W ht hx hy)
  have HL := Lib.hid (fun W (h : Below w.heap.size w W) => leaf_any W p R L F (tsetN q.tl x y v) (hs.below h) (tsetN_lt _ _ _ _))
  clear hs hq hq1 hx hy ht
  go_enter Try.func22, Try.ntmps22
  go_upto_region 4 with (go_at_call 46; refine HH.out.mono ?_; rintro e w1 ⟨rfl, hb1⟩; unfold sqV; rw [hl])
  go_name_world W hW
  have hgb : W.heap[w1.heap.size]? = some (.cells #[.int .i64 ((3 : Nat) : Int), .int .u64 (q.tl : Nat), .int .i64 (q.ka : Nat), .int .i64 (q.kb : Nat), .int .i64 (q.kc : Nat), .int .i64 (q.kd : Nat)] 103 (0, 0)) := by rw [← hW]; exact heap_alloc_new w1 _
  have hB : Below w.heap.size w W := by rw [← hW]; exact hb1.trans ((Below.refl _ _).alloc hb1.size _)
  clear hW hb1
  generalize w1.heap.size = gb at *
  have b0 : W.cell? ⟨gb, 0, none⟩ = some (.int .i64 ((3 : Nat) : Int)) := cell_of_row _ _ 0 _ _ _ hgb
  have b1 : W.cell? ⟨gb, 1, none⟩ = some (.int .u64 (q.tl : Nat)) := cell_of_row _ _ 1 _ _ _ hgb
  have HB := Lib.hid hB
  clear hgb hB hl
  generalize hev : errv (leafL R L (tsetN q.tl x y v)).2.2 = ev
  have HE := Lib.hid hev
  clear hev
  go_wp2_with (first
    | (go_at_call 48; refine (HT.out _).mono ?_; rintro e w2 ⟨rfl, rfl⟩)
    | (go_at_call 15; refine (HL.out _ HB.out).mono ?_; rintro e w2 ⟨rfl, ha⟩; rw [HE.out]))
  go_ret2
  exact ⟨by rw [HE.out]; rfl, ha.before HB.out⟩

set_option maxRecDepth 100000 in
set_option maxHeartbeats 4000000 in
theorem set_n0 (w : World) (p R : Nat) (L M : List Sq) (F : Nat → Prop) (k kk id h : Nat) (q : Sq) (x y : Nat) (v : Bool) (hs : Store w p R L F) (hq : L[k]? = some q) (hl : q.lv = h + 1) (h3 : 3 ≤ h) (h9 : h ≤ 39) (hx : x < 2 ^ (h + 1)) (hy : y < 2 ^ (h + 1))
    (ex : x / 2 ^ h = 0) (ey : y / 2 ^ h = 0) (hk : q.ka = kk + 1)
    (ih : ∀ W, Store W p R L F → Calls Try.prog 22 #[.pointer (some ⟨p, 0, none⟩), .int .i64 ((kk : Int) + 1), .int .i64 (x % 2 ^ h : Nat), .int .i64 (y % 2 ^ h : Nat), .bool v] W fun e w' =>
      e = .returned (.tuple #[.int .i64 (id : Nat), .nilIface]) ∧ Acted W w' p R M F) :
    Calls Try.prog 22 #[.pointer (some ⟨p, 0, none⟩), .int .i64 ((k : Int) + 1), .int .i64 (x : Nat), .int .i64 (y : Nat), .bool v] w fun e w' =>
      e = .returned (.tuple #[.int .i64 ((nodeL R M id q.kb q.kc q.kd).2.1 : Nat), errv (nodeL R M id q.kb q.kc q.kd).2.2]) ∧ Acted w w' p R (nodeL R M id q.kb q.kc q.kd).1 F := by
  have HH := Lib.hid (cell_ok w p R L F k q x y hs hq (by rw [hl]; exact hx) (by rw [hl]; exact hy))
  have hFl := hs.lt
  have HI := Lib.hid (fun W (hb : Below w.heap.size w W) => ih W (hs.below hb))
  have HF := Lib.hid hFl
  have v0 : IntKind.i64.wrap 0 = 0 := by decide
  have v1 : IntKind.i64.wrap 1 = 1 := by decide
  have v2 : IntKind.i64.wrap 2 = 2 := by decide
  have v3 : IntKind.i64.wrap 3 = 3 := by decide
  have hx40 : x < 2 ^ 40 := Nat.lt_of_lt_of_le hx (Nat.pow_le_pow_right (by decide) (by omega))
  have hy40 : y < 2 ^ 40 := Nat.lt_of_lt_of_le hy (Nat.pow_le_pow_right (by decide) (by omega))
  have mxe := mask_nat x h (by omega) h9
  have mye := mask_nat y h (by omega) h9
  have HK := Lib.hid (And.intro hl hk)
  have hpow := Lib.hid (Nat.pow_le_pow_right (n := 2) (by decide) h9)
  have i3 : (3 : Int) ≤ (h : Nat) := by omega
  have i9 : ((h : Nat) : Int) ≤ 39 := by omega
  have ex0 : (x : Int) / 2 ^ h = ((x / 2 ^ h : Nat) : Int) := by simp
  have ey0 : (y : Int) / 2 ^ h = ((y / 2 ^ h : Nat) : Int) := by simp
  rw [ex] at ex0
  rw [ey] at ey0
  clear ih hs hq hx hy hFl ex ey h3 h9 hx40 hy40 hl hk
  go_enter Try.func22, Try.ntmps22
  go_wp2_with (go_at_call 46; refine HH.out.mono ?_; rintro e w1 ⟨rfl, hb1⟩; unfold sqV; rw [HK.out.1, (show q.ka = kk + 1 from HK.out.2), show ((kk + 1 : Nat) : Int) = (kk : Int) + 1 from rfl, show ((h + 1 : Nat) : Int) = (h : Int) + 1 from rfl])
  go_name_world W hW
  have hgb : W.heap[w1.heap.size]? = some (.cells #[.int .i64 ((h : Int) + 1), .int .u64 (q.tl : Nat), .int .i64 ((kk : Int) + 1), .int .i64 (q.kb : Nat), .int .i64 (q.kc : Nat), .int .i64 (q.kd : Nat)] 103 (0, 0)) := by rw [← hW]; exact heap_alloc_new w1 _
  have hB : Below w.heap.size w W := by rw [← hW]; exact hb1.trans ((Below.refl _ _).alloc hb1.size _)
  have hz := hb1.size
  clear hW hb1
  generalize w1.heap.size = gb at *
  have b0 : W.cell? ⟨gb, 0, none⟩ = some (.int .i64 ((h : Int) + 1)) := cell_of_row _ _ 0 _ _ _ hgb
  have bk : W.cell? ⟨gb, 2, none⟩ = some (.int .i64 ((kk : Int) + 1)) := cell_of_row _ _ 2 _ _ _ hgb
  have HB := Lib.hid (And.intro hgb (And.intro hB hz))
  clear hgb hB hz
  go_upto_region 10 with fail
  go_quiet (fail)
  go_upto_region 11 with fail
  go_name_world V hV
  have bk : V.cell? ⟨gb, 2, none⟩ = some (.int .i64 ((kk : Int) + 1)) := by rw [← hV]; exact bk
  have HV := Lib.hid (show V.heap[gb]? = some (.cells #[.int .i64 ((h : Int) + 1), .int .u64 (q.tl : Nat), .int .i64 ((kk : Int) + 1), .int .i64 (q.kb : Nat), .int .i64 (q.kc : Nat), .int .i64 (q.kd : Nat)] 103 (0, 0)) ∧ Below w.heap.size w V ∧ w.heap.size ≤ gb by
    rw [← hV]; exact ⟨HB.out.1, below_drewN HB.out.2.1 _, HB.out.2.2⟩)
  have HX := Lib.hid (fun (U T : World) (ha : Acted U T p R M F) (e : U.heap = V.heap) => ha.row e HV.out.1 (fun hf => by have := HF.out gb hf; have := HV.out.2.2; omega))
  clear b0 HB hV
  go_region_held3 (fun w' => w'.cell? ⟨gb, 2, none⟩ = some (.int .i64 ((kk : Int) + 1))) (go_keep) ((go_at_call 22; refine (HI.out _ (below_drewN HV.out.2.1 _)).mono ?_; rintro e w2 ⟨rfl, ha⟩; have r2 := HX.out _ _ ha rfl; have s0 := cell_of_row _ _ 2 _ _ _ r2))
  clear s0 bk ex0 ey0 mxe mye
  have fz : w2.frozen? ⟨gb, 2, none⟩ = false := frozen_of_row _ _ _ _ _ r2
  have HR := Lib.hid r2
  go_upto_region 15 with fail
  go_name_world U hU
  have hr : U.heap[gb]? = some (.cells #[.int .i64 ((h : Int) + 1), .int .u64 (q.tl : Nat), .int .i64 (id : Nat), .int .i64 (q.kb : Nat), .int .i64 (q.kc : Nat), .int .i64 (q.kd : Nat)] 103 (0, 0)) := by rw [← hU]; exact heap_setCell_same _ _ _ _ _ _ HR.out
  have hA : Acted w U p R M F := by
    rw [← hU]
    exact Acted.box (below_drewN HV.out.2.1 _) HV.out.2.2 (heap_lt' (W := V.drewN 1) HV.out.1) HF.out ha ((Keep.refl (fun i => i = gb) _).setCell (p := ⟨gb, 2, none⟩) (.inl (rfl : gb = gb)) _)
  have hN := node_any U p R M _ (id : Nat) (q.kb : Nat) (q.kc : Nat) (q.kd : Nat) hA.st
  simp only [Int.toNat_natCast] at hN
  have HN := Lib.hid hN
  have HA := Lib.hid hA
  have g0 : U.cell? ⟨gb, 2, none⟩ = some (.int .i64 (id : Nat)) := cell_of_row _ _ 2 _ _ _ hr
  have g1 : U.cell? ⟨gb, 3, none⟩ = some (.int .i64 (q.kb : Nat)) := cell_of_row _ _ 3 _ _ _ hr
  have g2 : U.cell? ⟨gb, 4, none⟩ = some (.int .i64 (q.kc : Nat)) := cell_of_row _ _ 4 _ _ _ hr
  have g3 : U.cell? ⟨gb, 5, none⟩ = some (.int .i64 (q.kd : Nat)) := cell_of_row _ _ 5 _ _ _ hr
  clear hU r2 fz hN hA ha HR hr
  generalize hev : errv (nodeL R M id q.kb q.kc q.kd).2.2 = ev
  have HE := Lib.hid hev
  clear hev
  go_wp2_with (go_at_call 18; refine HN.out.mono ?_; rintro e w3 ⟨rfl, ha3⟩; rw [HE.out])
  go_ret2
  exact ⟨by rw [HE.out]; rfl, HA.out.then ha3⟩

set_option maxRecDepth 100000 in
set_option maxHeartbeats 4000000 in
theorem set_n0_bad (w : World) (p R : Nat) (L M : List Sq) (F : Nat → Prop) (k kk h : Nat) (q : Sq) (x y : Nat) (v : Bool) (hs : Store w p R L F) (hq : L[k]? = some q) (hl : q.lv = h + 1) (h3 : 3 ≤ h) (h9 : h ≤ 39) (hx : x < 2 ^ (h + 1)) (hy : y < 2 ^ (h + 1))
    (ex : x / 2 ^ h = 0) (ey : y / 2 ^ h = 0) (hk : q.ka = kk + 1)
    (ih : ∀ W, Store W p R L F → Calls Try.prog 22 #[.pointer (some ⟨p, 0, none⟩), .int .i64 ((kk : Int) + 1), .int .i64 (x % 2 ^ h : Nat), .int .i64 (y % 2 ^ h : Nat), .bool v] W fun e w' =>
      e = .returned (.tuple #[.int .i64 0, errv 6]) ∧ Acted W w' p R M F) :
    Calls Try.prog 22 #[.pointer (some ⟨p, 0, none⟩), .int .i64 ((k : Int) + 1), .int .i64 (x : Nat), .int .i64 (y : Nat), .bool v] w fun e w' =>
      e = .returned (.tuple #[.int .i64 0, errv 6]) ∧ Acted w w' p R M F := by
  have HH := Lib.hid (cell_ok w p R L F k q x y hs hq (by rw [hl]; exact hx) (by rw [hl]; exact hy))
  have hFl := hs.lt
  have HI := Lib.hid (fun W (hb : Below w.heap.size w W) => ih W (hs.below hb))
  have HF := Lib.hid hFl
  have v0 : IntKind.i64.wrap 0 = 0 := by decide
  have v1 : IntKind.i64.wrap 1 = 1 := by decide
  have v2 : IntKind.i64.wrap 2 = 2 := by decide
  have v3 : IntKind.i64.wrap 3 = 3 := by decide
  have hx40 : x < 2 ^ 40 := Nat.lt_of_lt_of_le hx (Nat.pow_le_pow_right (by decide) (by omega))
  have hy40 : y < 2 ^ 40 := Nat.lt_of_lt_of_le hy (Nat.pow_le_pow_right (by decide) (by omega))
  have mxe := mask_nat x h (by omega) h9
  have mye := mask_nat y h (by omega) h9
  have HK := Lib.hid (And.intro hl hk)
  have hpow := Lib.hid (Nat.pow_le_pow_right (n := 2) (by decide) h9)
  have i3 : (3 : Int) ≤ (h : Nat) := by omega
  have i9 : ((h : Nat) : Int) ≤ 39 := by omega
  have ex0 : (x : Int) / 2 ^ h = ((x / 2 ^ h : Nat) : Int) := by simp
  have ey0 : (y : Int) / 2 ^ h = ((y / 2 ^ h : Nat) : Int) := by simp
  rw [ex] at ex0
  rw [ey] at ey0
  clear ih hs hq hx hy hFl ex ey h3 h9 hx40 hy40 hl hk
  go_enter Try.func22, Try.ntmps22
  go_wp2_with (go_at_call 46; refine HH.out.mono ?_; rintro e w1 ⟨rfl, hb1⟩; unfold sqV; rw [HK.out.1, (show q.ka = kk + 1 from HK.out.2), show ((kk + 1 : Nat) : Int) = (kk : Int) + 1 from rfl, show ((h + 1 : Nat) : Int) = (h : Int) + 1 from rfl])
  go_name_world W hW
  have hgb : W.heap[w1.heap.size]? = some (.cells #[.int .i64 ((h : Int) + 1), .int .u64 (q.tl : Nat), .int .i64 ((kk : Int) + 1), .int .i64 (q.kb : Nat), .int .i64 (q.kc : Nat), .int .i64 (q.kd : Nat)] 103 (0, 0)) := by rw [← hW]; exact heap_alloc_new w1 _
  have hB : Below w.heap.size w W := by rw [← hW]; exact hb1.trans ((Below.refl _ _).alloc hb1.size _)
  have hz := hb1.size
  clear hW hb1
  generalize w1.heap.size = gb at *
  have b0 : W.cell? ⟨gb, 0, none⟩ = some (.int .i64 ((h : Int) + 1)) := cell_of_row _ _ 0 _ _ _ hgb
  have bk : W.cell? ⟨gb, 2, none⟩ = some (.int .i64 ((kk : Int) + 1)) := cell_of_row _ _ 2 _ _ _ hgb
  have HB := Lib.hid (And.intro hgb (And.intro hB hz))
  clear hgb hB hz
  go_upto_region 10 with fail
  go_quiet (fail)
  go_upto_region 11 with fail
  go_name_world V hV
  have bk : V.cell? ⟨gb, 2, none⟩ = some (.int .i64 ((kk : Int) + 1)) := by rw [← hV]; exact bk
  have HV := Lib.hid (show V.heap[gb]? = some (.cells #[.int .i64 ((h : Int) + 1), .int .u64 (q.tl : Nat), .int .i64 ((kk : Int) + 1), .int .i64 (q.kb : Nat), .int .i64 (q.kc : Nat), .int .i64 (q.kd : Nat)] 103 (0, 0)) ∧ Below w.heap.size w V ∧ w.heap.size ≤ gb by
    rw [← hV]; exact ⟨HB.out.1, below_drewN HB.out.2.1 _, HB.out.2.2⟩)
  have HX := Lib.hid (fun (U T : World) (ha : Acted U T p R M F) (e : U.heap = V.heap) => ha.row e HV.out.1 (fun hf => by have := HF.out gb hf; have := HV.out.2.2; omega))
  clear b0 HB hV
  have HZ := Lib.hid (show errv 6 = .iface 96 (.int .i64 ((5 + 1 : Nat) : Int)) from errv_succ 5)
  go_region_held3 (fun w' => w'.cell? ⟨gb, 2, none⟩ = some (.int .i64 ((kk : Int) + 1))) (go_keep) ((go_at_call 22; refine (HI.out _ (below_drewN HV.out.2.1 _)).mono ?_; rintro e w2 ⟨rfl, ha⟩; have r2 := HX.out _ _ ha rfl; have s0 := cell_of_row _ _ 2 _ _ _ r2; rw [HZ.out]))
  clear s0 r2 bk v0 v1 v2 v3 ex0 ey0 mxe mye
  go_wp2
  go_ret2
  exact ⟨by rw [HZ.out]; rfl, ha.before (below_drewN HV.out.2.1 _)⟩

set_option maxRecDepth 100000 in
set_option maxHeartbeats 4000000 in
theorem set_n1 (w : World) (p R : Nat) (L M : List Sq) (F : Nat → Prop) (k kk id h : Nat) (q : Sq) (x y : Nat) (v : Bool) (hs : Store w p R L F) (hq : L[k]? = some q) (hl : q.lv = h + 1) (h3 : 3 ≤ h) (h9 : h ≤ 39) (hx : x < 2 ^ (h + 1)) (hy : y < 2 ^ (h + 1))
    (ex : x / 2 ^ h = 1) (ey : y / 2 ^ h = 0) (hk : q.kb = kk + 1)
    (ih : ∀ W, Store W p R L F → Calls Try.prog 22 #[.pointer (some ⟨p, 0, none⟩), .int .i64 ((kk : Int) + 1), .int .i64 (x % 2 ^ h : Nat), .int .i64 (y % 2 ^ h : Nat), .bool v] W fun e w' =>
      e = .returned (.tuple #[.int .i64 (id : Nat), .nilIface]) ∧ Acted W w' p R M F) :
    Calls Try.prog 22 #[.pointer (some ⟨p, 0, none⟩), .int .i64 ((k : Int) + 1), .int .i64 (x : Nat), .int .i64 (y : Nat), .bool v] w fun e w' =>
      e = .returned (.tuple #[.int .i64 ((nodeL R M q.ka id q.kc q.kd).2.1 : Nat), errv (nodeL R M q.ka id q.kc q.kd).2.2]) ∧ Acted w w' p R (nodeL R M q.ka id q.kc q.kd).1 F := by
  have HH := Lib.hid (cell_ok w p R L F k q x y hs hq (by rw [hl]; exact hx) (by rw [hl]; exact hy))
  have hFl := hs.lt
  have HI := Lib.hid (fun W (hb : Below w.heap.size w W) => ih W (hs.below hb))
  have HF := Lib.hid hFl
  have v0 : IntKind.i64.wrap 0 = 0 := by decide
  have v1 : IntKind.i64.wrap 1 = 1 := by decide
  have v2 : IntKind.i64.wrap 2 = 2 := by decide
  have v3 : IntKind.i64.wrap 3 = 3 := by decide
  have hx40 : x < 2 ^ 40 := Nat.lt_of_lt_of_le hx (Nat.pow_le_pow_right (by decide) (by omega))
  have hy40 : y < 2 ^ 40 := Nat.lt_of_lt_of_le hy (Nat.pow_le_pow_right (by decide) (by omega))
  have mxe := mask_nat x h (by omega) h9
  have mye := mask_nat y h (by omega) h9
  have HK := Lib.hid (And.intro hl hk)
  have hpow := Lib.hid (Nat.pow_le_pow_right (n := 2) (by decide) h9)
  have i3 : (3 : Int) ≤ (h : Nat) := by omega
  have i9 : ((h : Nat) : Int) ≤ 39 := by omega
  have ex0 : (x : Int) / 2 ^ h = ((x / 2 ^ h : Nat) : Int) := by simp
  have ey0 : (y : Int) / 2 ^ h = ((y / 2 ^ h : Nat) : Int) := by simp
  rw [ex] at ex0
  rw [ey] at ey0
  clear ih hs hq hx hy hFl ex ey h3 h9 hx40 hy40 hl hk
  go_enter Try.func22, Try.ntmps22
  go_wp2_with (go_at_call 46; refine HH.out.mono ?_; rintro e w1 ⟨rfl, hb1⟩; unfold sqV; rw [HK.out.1, (show q.kb = kk + 1 from HK.out.2), show ((kk + 1 : Nat) : Int) = (kk : Int) + 1 from rfl, show ((h + 1 : Nat) : Int) = (h : Int) + 1 from rfl])
  go_name_world W hW
  have hgb : W.heap[w1.heap.size]? = some (.cells #[.int .i64 ((h : Int) + 1), .int .u64 (q.tl : Nat), .int .i64 (q.ka : Nat), .int .i64 ((kk : Int) + 1), .int .i64 (q.kc : Nat), .int .i64 (q.kd : Nat)] 103 (0, 0)) := by rw [← hW]; exact heap_alloc_new w1 _
  have hB : Below w.heap.size w W := by rw [← hW]; exact hb1.trans ((Below.refl _ _).alloc hb1.size _)
  have hz := hb1.size
  clear hW hb1
  generalize w1.heap.size = gb at *
  have b0 : W.cell? ⟨gb, 0, none⟩ = some (.int .i64 ((h : Int) + 1)) := cell_of_row _ _ 0 _ _ _ hgb
  have bk : W.cell? ⟨gb, 3, none⟩ = some (.int .i64 ((kk : Int) + 1)) := cell_of_row _ _ 3 _ _ _ hgb
  have HB := Lib.hid (And.intro hgb (And.intro hB hz))
  clear hgb hB hz
  go_upto_region 10 with fail
  go_quiet (fail)
  go_upto_region 11 with fail
  go_name_world V hV
  have bk : V.cell? ⟨gb, 3, none⟩ = some (.int .i64 ((kk : Int) + 1)) := by rw [← hV]; exact bk
  have HV := Lib.hid (show V.heap[gb]? = some (.cells #[.int .i64 ((h : Int) + 1), .int .u64 (q.tl : Nat), .int .i64 (q.ka : Nat), .int .i64 ((kk : Int) + 1), .int .i64 (q.kc : Nat), .int .i64 (q.kd : Nat)] 103 (0, 0)) ∧ Below w.heap.size w V ∧ w.heap.size ≤ gb by
    rw [← hV]; exact ⟨HB.out.1, below_drewN HB.out.2.1 _, HB.out.2.2⟩)
  have HX := Lib.hid (fun (U T : World) (ha : Acted U T p R M F) (e : U.heap = V.heap) => ha.row e HV.out.1 (fun hf => by have := HF.out gb hf; have := HV.out.2.2; omega))
  clear b0 HB hV
  go_region_held3 (fun w' => w'.cell? ⟨gb, 3, none⟩ = some (.int .i64 ((kk : Int) + 1))) (go_keep) ((go_at_call 22; refine (HI.out _ (below_drewN HV.out.2.1 _)).mono ?_; rintro e w2 ⟨rfl, ha⟩; have r2 := HX.out _ _ ha rfl; have s0 := cell_of_row _ _ 3 _ _ _ r2))
  clear s0 bk ex0 ey0 mxe mye
  have fz : w2.frozen? ⟨gb, 3, none⟩ = false := frozen_of_row _ _ _ _ _ r2
  have HR := Lib.hid r2
  go_upto_region 15 with fail
  go_name_world U hU
  have hr : U.heap[gb]? = some (.cells #[.int .i64 ((h : Int) + 1), .int .u64 (q.tl : Nat), .int .i64 (q.ka : Nat), .int .i64 (id : Nat), .int .i64 (q.kc : Nat), .int .i64 (q.kd : Nat)] 103 (0, 0)) := by rw [← hU]; exact heap_setCell_same _ _ _ _ _ _ HR.out
  have hA : Acted w U p R M F := by
    rw [← hU]
    exact Acted.box (below_drewN HV.out.2.1 _) HV.out.2.2 (heap_lt' (W := V.drewN 1) HV.out.1) HF.out ha ((Keep.refl (fun i => i = gb) _).setCell (p := ⟨gb, 3, none⟩) (.inl (rfl : gb = gb)) _)
  have hN := node_any U p R M _ (q.ka : Nat) (id : Nat) (q.kc : Nat) (q.kd : Nat) hA.st
  simp only [Int.toNat_natCast] at hN
  have HN := Lib.hid hN
  have HA := Lib.hid hA
  have g0 : U.cell? ⟨gb, 2, none⟩ = some (.int .i64 (q.ka : Nat)) := cell_of_row _ _ 2 _ _ _ hr
  have g1 : U.cell? ⟨gb, 3, none⟩ = some (.int .i64 (id : Nat)) := cell_of_row _ _ 3 _ _ _ hr
  have g2 : U.cell? ⟨gb, 4, none⟩ = some (.int .i64 (q.kc : Nat)) := cell_of_row _ _ 4 _ _ _ hr
  have g3 : U.cell? ⟨gb, 5, none⟩ = some (.int .i64 (q.kd : Nat)) := cell_of_row _ _ 5 _ _ _ hr
  clear hU r2 fz hN hA ha HR hr
  generalize hev : errv (nodeL R M q.ka id q.kc q.kd).2.2 = ev
  have HE := Lib.hid hev
  clear hev
  go_wp2_with (go_at_call 18; refine HN.out.mono ?_; rintro e w3 ⟨rfl, ha3⟩; rw [HE.out])
  go_ret2
  exact ⟨by rw [HE.out]; rfl, HA.out.then ha3⟩

set_option maxRecDepth 100000 in
set_option maxHeartbeats 4000000 in
theorem set_n1_bad (w : World) (p R : Nat) (L M : List Sq) (F : Nat → Prop) (k kk h : Nat) (q : Sq) (x y : Nat) (v : Bool) (hs : Store w p R L F) (hq : L[k]? = some q) (hl : q.lv = h + 1) (h3 : 3 ≤ h) (h9 : h ≤ 39) (hx : x < 2 ^ (h + 1)) (hy : y < 2 ^ (h + 1))
    (ex : x / 2 ^ h = 1) (ey : y / 2 ^ h = 0) (hk : q.kb = kk + 1)
    (ih : ∀ W, Store W p R L F → Calls Try.prog 22 #[.pointer (some ⟨p, 0, none⟩), .int .i64 ((kk : Int) + 1), .int .i64 (x % 2 ^ h : Nat), .int .i64 (y % 2 ^ h : Nat), .bool v] W fun e w' =>
      e = .returned (.tuple #[.int .i64 0, errv 6]) ∧ Acted W w' p R M F) :
    Calls Try.prog 22 #[.pointer (some ⟨p, 0, none⟩), .int .i64 ((k : Int) + 1), .int .i64 (x : Nat), .int .i64 (y : Nat), .bool v] w fun e w' =>
      e = .returned (.tuple #[.int .i64 0, errv 6]) ∧ Acted w w' p R M F := by
  have HH := Lib.hid (cell_ok w p R L F k q x y hs hq (by rw [hl]; exact hx) (by rw [hl]; exact hy))
  have hFl := hs.lt
  have HI := Lib.hid (fun W (hb : Below w.heap.size w W) => ih W (hs.below hb))
  have HF := Lib.hid hFl
  have v0 : IntKind.i64.wrap 0 = 0 := by decide
  have v1 : IntKind.i64.wrap 1 = 1 := by decide
  have v2 : IntKind.i64.wrap 2 = 2 := by decide
  have v3 : IntKind.i64.wrap 3 = 3 := by decide
  have hx40 : x < 2 ^ 40 := Nat.lt_of_lt_of_le hx (Nat.pow_le_pow_right (by decide) (by omega))
  have hy40 : y < 2 ^ 40 := Nat.lt_of_lt_of_le hy (Nat.pow_le_pow_right (by decide) (by omega))
  have mxe := mask_nat x h (by omega) h9
  have mye := mask_nat y h (by omega) h9
  have HK := Lib.hid (And.intro hl hk)
  have hpow := Lib.hid (Nat.pow_le_pow_right (n := 2) (by decide) h9)
  have i3 : (3 : Int) ≤ (h : Nat) := by omega
  have i9 : ((h : Nat) : Int) ≤ 39 := by omega
  have ex0 : (x : Int) / 2 ^ h = ((x / 2 ^ h : Nat) : Int) := by simp
  have ey0 : (y : Int) / 2 ^ h = ((y / 2 ^ h : Nat) : Int) := by simp
  rw [ex] at ex0
  rw [ey] at ey0
  clear ih hs hq hx hy hFl ex ey h3 h9 hx40 hy40 hl hk
  go_enter Try.func22, Try.ntmps22
  go_wp2_with (go_at_call 46; refine HH.out.mono ?_; rintro e w1 ⟨rfl, hb1⟩; unfold sqV; rw [HK.out.1, (show q.kb = kk + 1 from HK.out.2), show ((kk + 1 : Nat) : Int) = (kk : Int) + 1 from rfl, show ((h + 1 : Nat) : Int) = (h : Int) + 1 from rfl])
  go_name_world W hW
  have hgb : W.heap[w1.heap.size]? = some (.cells #[.int .i64 ((h : Int) + 1), .int .u64 (q.tl : Nat), .int .i64 (q.ka : Nat), .int .i64 ((kk : Int) + 1), .int .i64 (q.kc : Nat), .int .i64 (q.kd : Nat)] 103 (0, 0)) := by rw [← hW]; exact heap_alloc_new w1 _
  have hB : Below w.heap.size w W := by rw [← hW]; exact hb1.trans ((Below.refl _ _).alloc hb1.size _)
  have hz := hb1.size
  clear hW hb1
  generalize w1.heap.size = gb at *
  have b0 : W.cell? ⟨gb, 0, none⟩ = some (.int .i64 ((h : Int) + 1)) := cell_of_row _ _ 0 _ _ _ hgb
  have bk : W.cell? ⟨gb, 3, none⟩ = some (.int .i64 ((kk : Int) + 1)) := cell_of_row _ _ 3 _ _ _ hgb
  have HB := Lib.hid (And.intro hgb (And.intro hB hz))
  clear hgb hB hz
  go_upto_region 10 with fail
  go_quiet (fail)
  go_upto_region 11 with fail
  go_name_world V hV
  have bk : V.cell? ⟨gb, 3, none⟩ = some (.int .i64 ((kk : Int) + 1)) := by rw [← hV]; exact bk
  have HV := Lib.hid (show V.heap[gb]? = some (.cells #[.int .i64 ((h : Int) + 1), .int .u64 (q.tl : Nat), .int .i64 (q.ka : Nat), .int .i64 ((kk : Int) + 1), .int .i64 (q.kc : Nat), .int .i64 (q.kd : Nat)] 103 (0, 0)) ∧ Below w.heap.size w V ∧ w.heap.size ≤ gb by
    rw [← hV]; exact ⟨HB.out.1, below_drewN HB.out.2.1 _, HB.out.2.2⟩)
  have HX := Lib.hid (fun (U T : World) (ha : Acted U T p R M F) (e : U.heap = V.heap) => ha.row e HV.out.1 (fun hf => by have := HF.out gb hf; have := HV.out.2.2; omega))
  clear b0 HB hV
  have HZ := Lib.hid (show errv 6 = .iface 96 (.int .i64 ((5 + 1 : Nat) : Int)) from errv_succ 5)
  go_region_held3 (fun w' => w'.cell? ⟨gb, 3, none⟩ = some (.int .i64 ((kk : Int) + 1))) (go_keep) ((go_at_call 22; refine (HI.out _ (below_drewN HV.out.2.1 _)).mono ?_; rintro e w2 ⟨rfl, ha⟩; have r2 := HX.out _ _ ha rfl; have s0 := cell_of_row _ _ 3 _ _ _ r2; rw [HZ.out]))
  clear s0 r2 bk v0 v1 v2 v3 ex0 ey0 mxe mye
  go_wp2
  go_ret2
  exact ⟨by rw [HZ.out]; rfl, ha.before (below_drewN HV.out.2.1 _)⟩

set_option maxRecDepth 100000 in
set_option maxHeartbeats 4000000 in
theorem set_n2 (w : World) (p R : Nat) (L M : List Sq) (F : Nat → Prop) (k kk id h : Nat) (q : Sq) (x y : Nat) (v : Bool) (hs : Store w p R L F) (hq : L[k]? = some q) (hl : q.lv = h + 1) (h3 : 3 ≤ h) (h9 : h ≤ 39) (hx : x < 2 ^ (h + 1)) (hy : y < 2 ^ (h + 1))
    (ex : x / 2 ^ h = 0) (ey : y / 2 ^ h = 1) (hk : q.kc = kk + 1)
    (ih : ∀ W, Store W p R L F → Calls Try.prog 22 #[.pointer (some ⟨p, 0, none⟩), .int .i64 ((kk : Int) + 1), .int .i64 (x % 2 ^ h : Nat), .int .i64 (y % 2 ^ h : Nat), .bool v] W fun e w' =>
      e = .returned (.tuple #[.int .i64 (id : Nat), .nilIface]) ∧ Acted W w' p R M F) :
    Calls Try.prog 22 #[.pointer (some ⟨p, 0, none⟩), .int .i64 ((k : Int) + 1), .int .i64 (x : Nat), .int .i64 (y : Nat), .bool v] w fun e w' =>
      e = .returned (.tuple #[.int .i64 ((nodeL R M q.ka q.kb id q.kd).2.1 : Nat), errv (nodeL R M q.ka q.kb id q.kd).2.2]) ∧ Acted w w' p R (nodeL R M q.ka q.kb id q.kd).1 F := by
  have HH := Lib.hid (cell_ok w p R L F k q x y hs hq (by rw [hl]; exact hx) (by rw [hl]; exact hy))
  have hFl := hs.lt
  have HI := Lib.hid (fun W (hb : Below w.heap.size w W) => ih W (hs.below hb))
  have HF := Lib.hid hFl
  have v0 : IntKind.i64.wrap 0 = 0 := by decide
  have v1 : IntKind.i64.wrap 1 = 1 := by decide
  have v2 : IntKind.i64.wrap 2 = 2 := by decide
  have v3 : IntKind.i64.wrap 3 = 3 := by decide
  have hx40 : x < 2 ^ 40 := Nat.lt_of_lt_of_le hx (Nat.pow_le_pow_right (by decide) (by omega))
  have hy40 : y < 2 ^ 40 := Nat.lt_of_lt_of_le hy (Nat.pow_le_pow_right (by decide) (by omega))
  have mxe := mask_nat x h (by omega) h9
  have mye := mask_nat y h (by omega) h9
  have HK := Lib.hid (And.intro hl hk)
  have hpow := Lib.hid (Nat.pow_le_pow_right (n := 2) (by decide) h9)
  have i3 : (3 : Int) ≤ (h : Nat) := by omega
  have i9 : ((h : Nat) : Int) ≤ 39 := by omega
  have ex0 : (x : Int) / 2 ^ h = ((x / 2 ^ h : Nat) : Int) := by simp
  have ey0 : (y : Int) / 2 ^ h = ((y / 2 ^ h : Nat) : Int) := by simp
  rw [ex] at ex0
  rw [ey] at ey0
  clear ih hs hq hx hy hFl ex ey h3 h9 hx40 hy40 hl hk
  go_enter Try.func22, Try.ntmps22
  go_wp2_with (go_at_call 46; refine HH.out.mono ?_; rintro e w1 ⟨rfl, hb1⟩; unfold sqV; rw [HK.out.1, (show q.kc = kk + 1 from HK.out.2), show ((kk + 1 : Nat) : Int) = (kk : Int) + 1 from rfl, show ((h + 1 : Nat) : Int) = (h : Int) + 1 from rfl])
  go_name_world W hW
  have hgb : W.heap[w1.heap.size]? = some (.cells #[.int .i64 ((h : Int) + 1), .int .u64 (q.tl : Nat), .int .i64 (q.ka : Nat), .int .i64 (q.kb : Nat), .int .i64 ((kk : Int) + 1), .int .i64 (q.kd : Nat)] 103 (0, 0)) := by rw [← hW]; exact heap_alloc_new w1 _
  have hB : Below w.heap.size w W := by rw [← hW]; exact hb1.trans ((Below.refl _ _).alloc hb1.size _)
  have hz := hb1.size
  clear hW hb1
  generalize w1.heap.size = gb at *
  have b0 : W.cell? ⟨gb, 0, none⟩ = some (.int .i64 ((h : Int) + 1)) := cell_of_row _ _ 0 _ _ _ hgb
  have bk : W.cell? ⟨gb, 4, none⟩ = some (.int .i64 ((kk : Int) + 1)) := cell_of_row _ _ 4 _ _ _ hgb
  have HB := Lib.hid (And.intro hgb (And.intro hB hz))
  clear hgb hB hz
  go_upto_region 10 with fail
  go_quiet (fail)
  go_upto_region 11 with fail
  go_name_world V hV
  have bk : V.cell? ⟨gb, 4, none⟩ = some (.int .i64 ((kk : Int) + 1)) := by rw [← hV]; exact bk
  have HV := Lib.hid (show V.heap[gb]? = some (.cells #[.int .i64 ((h : Int) + 1), .int .u64 (q.tl : Nat), .int .i64 (q.ka : Nat), .int .i64 (q.kb : Nat), .int .i64 ((kk : Int) + 1), .int .i64 (q.kd : Nat)] 103 (0, 0)) ∧ Below w.heap.size w V ∧ w.heap.size ≤ gb by
    rw [← hV]; exact ⟨HB.out.1, below_drewN HB.out.2.1 _, HB.out.2.2⟩)
  have HX := Lib.hid (fun (U T : World) (ha : Acted U T p R M F) (e : U.heap = V.heap) => ha.row e HV.out.1 (fun hf => by have := HF.out gb hf; have := HV.out.2.2; omega))
  clear b0 HB hV
  go_region_held3 (fun w' => w'.cell? ⟨gb, 4, none⟩ = some (.int .i64 ((kk : Int) + 1))) (go_keep) ((go_at_call 22; refine (HI.out _ (below_drewN HV.out.2.1 _)).mono ?_; rintro e w2 ⟨rfl, ha⟩; have r2 := HX.out _ _ ha rfl; have s0 := cell_of_row _ _ 4 _ _ _ r2))
  clear s0 bk ex0 ey0 mxe mye
  have fz : w2.frozen? ⟨gb, 4, none⟩ = false := frozen_of_row _ _ _ _ _ r2
  have HR := Lib.hid r2
  go_upto_region 15 with fail
  go_name_world U hU
  have hr : U.heap[gb]? = some (.cells #[.int .i64 ((h : Int) + 1), .int .u64 (q.tl : Nat), .int .i64 (q.ka : Nat), .int .i64 (q.kb : Nat), .int .i64 (id : Nat), .int .i64 (q.kd : Nat)] 103 (0, 0)) := by rw [← hU]; exact heap_setCell_same _ _ _ _ _ _ HR.out
  have hA : Acted w U p R M F := by
    rw [← hU]
    exact Acted.box (below_drewN HV.out.2.1 _) HV.out.2.2 (heap_lt' (W := V.drewN 1) HV.out.1) HF.out ha ((Keep.refl (fun i => i = gb) _).setCell (p := ⟨gb, 4, none⟩) (.inl (rfl : gb = gb)) _)
  have hN := node_any U p R M _ (q.ka : Nat) (q.kb : Nat) (id : Nat) (q.kd : Nat) hA.st
  simp only [Int.toNat_natCast] at hN
  have HN := Lib.hid hN
  have HA := Lib.hid hA
  have g0 : U.cell? ⟨gb, 2, none⟩ = some (.int .i64 (q.ka : Nat)) := cell_of_row _ _ 2 _ _ _ hr
  have g1 : U.cell? ⟨gb, 3, none⟩ = some (.int .i64 (q.kb : Nat)) := cell_of_row _ _ 3 _ _ _ hr
  have g2 : U.cell? ⟨gb, 4, none⟩ = some (.int .i64 (id : Nat)) := cell_of_row _ _ 4 _ _ _ hr
  have g3 : U.cell? ⟨gb, 5, none⟩ = some (.int .i64 (q.kd : Nat)) := cell_of_row _ _ 5 _ _ _ hr
  clear hU r2 fz hN hA ha HR hr
  generalize hev : errv (nodeL R M q.ka q.kb id q.kd).2.2 = ev
  have HE := Lib.hid hev
  clear hev
  go_wp2_with (go_at_call 18; refine HN.out.mono ?_; rintro e w3 ⟨rfl, ha3⟩; rw [HE.out])
  go_ret2
  exact ⟨by rw [HE.out]; rfl, HA.out.then ha3⟩

set_option maxRecDepth 100000 in
set_option maxHeartbeats 4000000 in
theorem set_n2_bad (w : World) (p R : Nat) (L M : List Sq) (F : Nat → Prop) (k kk h : Nat) (q : Sq) (x y : Nat) (v : Bool) (hs : Store w p R L F) (hq : L[k]? = some q) (hl : q.lv = h + 1) (h3 : 3 ≤ h) (h9 : h ≤ 39) (hx : x < 2 ^ (h + 1)) (hy : y < 2 ^ (h + 1))
    (ex : x / 2 ^ h = 0) (ey : y / 2 ^ h = 1) (hk : q.kc = kk + 1)
    (ih : ∀ W, Store W p R L F → Calls Try.prog 22 #[.pointer (some ⟨p, 0, none⟩), .int .i64 ((kk : Int) + 1), .int .i64 (x % 2 ^ h : Nat), .int .i64 (y % 2 ^ h : Nat), .bool v] W fun e w' =>
      e = .returned (.tuple #[.int .i64 0, errv 6]) ∧ Acted W w' p R M F) :
    Calls Try.prog 22 #[.pointer (some ⟨p, 0, none⟩), .int .i64 ((k : Int) + 1), .int .i64 (x : Nat), .int .i64 (y : Nat), .bool v] w fun e w' =>
      e = .returned (.tuple #[.int .i64 0, errv 6]) ∧ Acted w w' p R M F := by
  have HH := Lib.hid (cell_ok w p R L F k q x y hs hq (by rw [hl]; exact hx) (by rw [hl]; exact hy))
  have hFl := hs.lt
  have HI := Lib.hid (fun W (hb : Below w.heap.size w W) => ih W (hs.below hb))
  have HF := Lib.hid hFl
  have v0 : IntKind.i64.wrap 0 = 0 := by decide
  have v1 : IntKind.i64.wrap 1 = 1 := by decide
  have v2 : IntKind.i64.wrap 2 = 2 := by decide
  have v3 : IntKind.i64.wrap 3 = 3 := by decide
  have hx40 : x < 2 ^ 40 := Nat.lt_of_lt_of_le hx (Nat.pow_le_pow_right (by decide) (by omega))
  have hy40 : y < 2 ^ 40 := Nat.lt_of_lt_of_le hy (Nat.pow_le_pow_right (by decide) (by omega))
  have mxe := mask_nat x h (by omega) h9
  have mye := mask_nat y h (by omega) h9
  have HK := Lib.hid (And.intro hl hk)
  have hpow := Lib.hid (Nat.pow_le_pow_right (n := 2) (by decide) h9)
  have i3 : (3 : Int) ≤ (h : Nat) := by omega
  have i9 : ((h : Nat) : Int) ≤ 39 := by omega
  have ex0 : (x : Int) / 2 ^ h = ((x / 2 ^ h : Nat) : Int) := by simp
  have ey0 : (y : Int) / 2 ^ h = ((y / 2 ^ h : Nat) : Int) := by simp
  rw [ex] at ex0
  rw [ey] at ey0
  clear ih hs hq hx hy hFl ex ey h3 h9 hx40 hy40 hl hk
  go_enter Try.func22, Try.ntmps22
  go_wp2_with (go_at_call 46; refine HH.out.mono ?_; rintro e w1 ⟨rfl, hb1⟩; unfold sqV; rw [HK.out.1, (show q.kc = kk + 1 from HK.out.2), show ((kk + 1 : Nat) : Int) = (kk : Int) + 1 from rfl, show ((h + 1 : Nat) : Int) = (h : Int) + 1 from rfl])
  go_name_world W hW
  have hgb : W.heap[w1.heap.size]? = some (.cells #[.int .i64 ((h : Int) + 1), .int .u64 (q.tl : Nat), .int .i64 (q.ka : Nat), .int .i64 (q.kb : Nat), .int .i64 ((kk : Int) + 1), .int .i64 (q.kd : Nat)] 103 (0, 0)) := by rw [← hW]; exact heap_alloc_new w1 _
  have hB : Below w.heap.size w W := by rw [← hW]; exact hb1.trans ((Below.refl _ _).alloc hb1.size _)
  have hz := hb1.size
  clear hW hb1
  generalize w1.heap.size = gb at *
  have b0 : W.cell? ⟨gb, 0, none⟩ = some (.int .i64 ((h : Int) + 1)) := cell_of_row _ _ 0 _ _ _ hgb
  have bk : W.cell? ⟨gb, 4, none⟩ = some (.int .i64 ((kk : Int) + 1)) := cell_of_row _ _ 4 _ _ _ hgb
  have HB := Lib.hid (And.intro hgb (And.intro hB hz))
  clear hgb hB hz
  go_upto_region 10 with fail
  go_quiet (fail)
  go_upto_region 11 with fail
  go_name_world V hV
  have bk : V.cell? ⟨gb, 4, none⟩ = some (.int .i64 ((kk : Int) + 1)) := by rw [← hV]; exact bk
  have HV := Lib.hid (show V.heap[gb]? = some (.cells #[.int .i64 ((h : Int) + 1), .int .u64 (q.tl : Nat), .int .i64 (q.ka : Nat), .int .i64 (q.kb : Nat), .int .i64 ((kk : Int) + 1), .int .i64 (q.kd : Nat)] 103 (0, 0)) ∧ Below w.heap.size w V ∧ w.heap.size ≤ gb by
    rw [← hV]; exact ⟨HB.out.1, below_drewN HB.out.2.1 _, HB.out.2.2⟩)
  have HX := Lib.hid (fun (U T : World) (ha : Acted U T p R M F) (e : U.heap = V.heap) => ha.row e HV.out.1 (fun hf => by have := HF.out gb hf; have := HV.out.2.2; omega))
  clear b0 HB hV
  have HZ := Lib.hid (show errv 6 = .iface 96 (.int .i64 ((5 + 1 : Nat) : Int)) from errv_succ 5)
  go_region_held3 (fun w' => w'.cell? ⟨gb, 4, none⟩ = some (.int .i64 ((kk : Int) + 1))) (go_keep) ((go_at_call 22; refine (HI.out _ (below_drewN HV.out.2.1 _)).mono ?_; rintro e w2 ⟨rfl, ha⟩; have r2 := HX.out _ _ ha rfl; have s0 := cell_of_row _ _ 4 _ _ _ r2; rw [HZ.out]))
  clear s0 r2 bk v0 v1 v2 v3 ex0 ey0 mxe mye
  go_wp2
  go_ret2
  exact ⟨by rw [HZ.out]; rfl, ha.before (below_drewN HV.out.2.1 _)⟩

set_option maxRecDepth 100000 in
set_option maxHeartbeats 4000000 in
theorem set_n3 (w : World) (p R : Nat) (L M : List Sq) (F : Nat → Prop) (k kk id h : Nat) (q : Sq) (x y : Nat) (v : Bool) (hs : Store w p R L F) (hq : L[k]? = some q) (hl : q.lv = h + 1) (h3 : 3 ≤ h) (h9 : h ≤ 39) (hx : x < 2 ^ (h + 1)) (hy : y < 2 ^ (h + 1))
    (ex : x / 2 ^ h = 1) (ey : y / 2 ^ h = 1) (hk : q.kd = kk + 1)
    (ih : ∀ W, Store W p R L F → Calls Try.prog 22 #[.pointer (some ⟨p, 0, none⟩), .int .i64 ((kk : Int) + 1), .int .i64 (x % 2 ^ h : Nat), .int .i64 (y % 2 ^ h : Nat), .bool v] W fun e w' =>
      e = .returned (.tuple #[.int .i64 (id : Nat), .nilIface]) ∧ Acted W w' p R M F) :
    Calls Try.prog 22 #[.pointer (some ⟨p, 0, none⟩), .int .i64 ((k : Int) + 1), .int .i64 (x : Nat), .int .i64 (y : Nat), .bool v] w fun e w' =>
      e = .returned (.tuple #[.int .i64 ((nodeL R M q.ka q.kb q.kc id).2.1 : Nat), errv (nodeL R M q.ka q.kb q.kc id).2.2]) ∧ Acted w w' p R (nodeL R M q.ka q.kb q.kc id).1 F := by
  have HH := Lib.hid (cell_ok w p R L F k q x y hs hq (by rw [hl]; exact hx) (by rw [hl]; exact hy))
  have hFl := hs.lt
  have HI := Lib.hid (fun W (hb : Below w.heap.size w W) => ih W (hs.below hb))
  have HF := Lib.hid hFl
  have v0 : IntKind.i64.wrap 0 = 0 := by decide
  have v1 : IntKind.i64.wrap 1 = 1 := by decide
  have v2 : IntKind.i64.wrap 2 = 2 := by decide
  have v3 : IntKind.i64.wrap 3 = 3 := by decide
  have hx40 : x < 2 ^ 40 := Nat.lt_of_lt_of_le hx (Nat.pow_le_pow_right (by decide) (by omega))
  have hy40 : y < 2 ^ 40 := Nat.lt_of_lt_of_le hy (Nat.pow_le_pow_right (by decide) (by omega))
  have mxe := mask_nat x h (by omega) h9
  have mye := mask_nat y h (by omega) h9
  have HK := Lib.hid (And.intro hl hk)
  have hpow := Lib.hid (Nat.pow_le_pow_right (n := 2) (by decide) h9)
  have i3 : (3 : Int) ≤ (h : Nat) := by omega
  have i9 : ((h : Nat) : Int) ≤ 39 := by omega
  have ex0 : (x : Int) / 2 ^ h = ((x / 2 ^ h : Nat) : Int) := by simp
  have ey0 : (y : Int) / 2 ^ h = ((y / 2 ^ h : Nat) : Int) := by simp
  rw [ex] at ex0
  rw [ey] at ey0
  clear ih hs hq hx hy hFl ex ey h3 h9 hx40 hy40 hl hk
  go_enter Try.func22, Try.ntmps22
  go_wp2_with (go_at_call 46; refine HH.out.mono ?_; rintro e w1 ⟨rfl, hb1⟩; unfold sqV; rw [HK.out.1, (show q.kd = kk + 1 from HK.out.2), show ((kk + 1 : Nat) : Int) = (kk : Int) + 1 from rfl, show ((h + 1 : Nat) : Int) = (h : Int) + 1 from rfl])
  go_name_world W hW
  have hgb : W.heap[w1.heap.size]? = some (.cells #[.int .i64 ((h : Int) + 1), .int .u64 (q.tl : Nat), .int .i64 (q.ka : Nat), .int .i64 (q.kb : Nat), .int .i64 (q.kc : Nat), .int .i64 ((kk : Int) + 1)] 103 (0, 0)) := by rw [← hW]; exact heap_alloc_new w1 _
  have hB : Below w.heap.size w W := by rw [← hW]; exact hb1.trans ((Below.refl _ _).alloc hb1.size _)
  have hz := hb1.size
  clear hW hb1
  generalize w1.heap.size = gb at *
  have b0 : W.cell? ⟨gb, 0, none⟩ = some (.int .i64 ((h : Int) + 1)) := cell_of_row _ _ 0 _ _ _ hgb
  have bk : W.cell? ⟨gb, 5, none⟩ = some (.int .i64 ((kk : Int) + 1)) := cell_of_row _ _ 5 _ _ _ hgb
  have HB := Lib.hid (And.intro hgb (And.intro hB hz))
  clear hgb hB hz
  go_upto_region 10 with fail
  go_quiet (fail)
  go_upto_region 11 with fail
  go_name_world V hV
  have bk : V.cell? ⟨gb, 5, none⟩ = some (.int .i64 ((kk : Int) + 1)) := by rw [← hV]; exact bk
  have HV := Lib.hid (show V.heap[gb]? = some (.cells #[.int .i64 ((h : Int) + 1), .int .u64 (q.tl : Nat), .int .i64 (q.ka : Nat), .int .i64 (q.kb : Nat), .int .i64 (q.kc : Nat), .int .i64 ((kk : Int) + 1)] 103 (0, 0)) ∧ Below w.heap.size w V ∧ w.heap.size ≤ gb by
    rw [← hV]; exact ⟨HB.out.1, below_drewN HB.out.2.1 _, HB.out.2.2⟩)
  have HX := Lib.hid (fun (U T : World) (ha : Acted U T p R M F) (e : U.heap = V.heap) => ha.row e HV.out.1 (fun hf => by have := HF.out gb hf; have := HV.out.2.2; omega))
  clear b0 HB hV
  go_region_held3 (fun w' => w'.cell? ⟨gb, 5, none⟩ = some (.int .i64 ((kk : Int) + 1))) (go_keep) ((go_at_call 22; refine (HI.out _ (below_drewN HV.out.2.1 _)).mono ?_; rintro e w2 ⟨rfl, ha⟩; have r2 := HX.out _ _ ha rfl; have s0 := cell_of_row _ _ 5 _ _ _ r2))
  clear s0 bk ex0 ey0 mxe mye
  have fz : w2.frozen? ⟨gb, 5, none⟩ = false := frozen_of_row _ _ _ _ _ r2
  have HR := Lib.hid r2
  go_upto_region 15 with fail
  go_name_world U hU
  have hr : U.heap[gb]? = some (.cells #[.int .i64 ((h : Int) + 1), .int .u64 (q.tl : Nat), .int .i64 (q.ka : Nat), .int .i64 (q.kb : Nat), .int .i64 (q.kc : Nat), .int .i64 (id : Nat)] 103 (0, 0)) := by rw [← hU]; exact heap_setCell_same _ _ _ _ _ _ HR.out
  have hA : Acted w U p R M F := by
    rw [← hU]
    exact Acted.box (below_drewN HV.out.2.1 _) HV.out.2.2 (heap_lt' (W := V.drewN 1) HV.out.1) HF.out ha ((Keep.refl (fun i => i = gb) _).setCell (p := ⟨gb, 5, none⟩) (.inl (rfl : gb = gb)) _)
  have hN := node_any U p R M _ (q.ka : Nat) (q.kb : Nat) (q.kc : Nat) (id : Nat) hA.st
  simp only [Int.toNat_natCast] at hN
  have HN := Lib.hid hN
  have HA := Lib.hid hA
  have g0 : U.cell? ⟨gb, 2, none⟩ = some (.int .i64 (q.ka : Nat)) := cell_of_row _ _ 2 _ _ _ hr
  have g1 : U.cell? ⟨gb, 3, none⟩ = some (.int .i64 (q.kb : Nat)) := cell_of_row _ _ 3 _ _ _ hr
  have g2 : U.cell? ⟨gb, 4, none⟩ = some (.int .i64 (q.kc : Nat)) := cell_of_row _ _ 4 _ _ _ hr
  have g3 : U.cell? ⟨gb, 5, none⟩ = some (.int .i64 (id : Nat)) := cell_of_row _ _ 5 _ _ _ hr
  clear hU r2 fz hN hA ha HR hr
  generalize hev : errv (nodeL R M q.ka q.kb q.kc id).2.2 = ev
  have HE := Lib.hid hev
  clear hev
  go_wp2_with (go_at_call 18; refine HN.out.mono ?_; rintro e w3 ⟨rfl, ha3⟩; rw [HE.out])
  go_ret2
  exact ⟨by rw [HE.out]; rfl, HA.out.then ha3⟩

set_option maxRecDepth 100000 in
set_option maxHeartbeats 4000000 in
theorem set_n3_bad (w : World) (p R : Nat) (L M : List Sq) (F : Nat → Prop) (k kk h : Nat) (q : Sq) (x y : Nat) (v : Bool) (hs : Store w p R L F) (hq : L[k]? = some q) (hl : q.lv = h + 1) (h3 : 3 ≤ h) (h9 : h ≤ 39) (hx : x < 2 ^ (h + 1)) (hy : y < 2 ^ (h + 1))
    (ex : x / 2 ^ h = 1) (ey : y / 2 ^ h = 1) (hk : q.kd = kk + 1)
    (ih : ∀ W, Store W p R L F → Calls Try.prog 22 #[.pointer (some ⟨p, 0, none⟩), .int .i64 ((kk : Int) + 1), .int .i64 (x % 2 ^ h : Nat), .int .i64 (y % 2 ^ h : Nat), .bool v] W fun e w' =>
      e = .returned (.tuple #[.int .i64 0, errv 6]) ∧ Acted W w' p R M F) :
    Calls Try.prog 22 #[.pointer (some ⟨p, 0, none⟩), .int .i64 ((k : Int) + 1), .int .i64 (x : Nat), .int .i64 (y : Nat), .bool v] w fun e w' =>
      e = .returned (.tuple #[.int .i64 0, errv 6]) ∧ Acted w w' p R M F := by
  have HH := Lib.hid (cell_ok w p R L F k q x y hs hq (by rw [hl]; exact hx) (by rw [hl]; exact hy))
  have hFl := hs.lt
  have HI := Lib.hid (fun W (hb : Below w.heap.size w W) => ih W (hs.below hb))
  have HF := Lib.hid hFl
  have v0 : IntKind.i64.wrap 0 = 0 := by decide
  have v1 : IntKind.i64.wrap 1 = 1 := by decide
  have v2 : IntKind.i64.wrap 2 = 2 := by decide
  have v3 : IntKind.i64.wrap 3 = 3 := by decide
  have hx40 : x < 2 ^ 40 := Nat.lt_of_lt_of_le hx (Nat.pow_le_pow_right (by decide) (by omega))
  have hy40 : y < 2 ^ 40 := Nat.lt_of_lt_of_le hy (Nat.pow_le_pow_right (by decide) (by omega))
  have mxe := mask_nat x h (by omega) h9
  have mye := mask_nat y h (by omega) h9
  have HK := Lib.hid (And.intro hl hk)
  have hpow := Lib.hid (Nat.pow_le_pow_right (n := 2) (by decide) h9)
  have i3 : (3 : Int) ≤ (h : Nat) := by omega
  have i9 : ((h : Nat) : Int) ≤ 39 := by omega
  have ex0 : (x : Int) / 2 ^ h = ((x / 2 ^ h : Nat) : Int) := by simp
  have ey0 : (y : Int) / 2 ^ h = ((y / 2 ^ h : Nat) : Int) := by simp
  rw [ex] at ex0
  rw [ey] at ey0
  clear ih hs hq hx hy hFl ex ey h3 h9 hx40 hy40 hl hk
  go_enter Try.func22, Try.ntmps22
  go_wp2_with (go_at_call 46; refine HH.out.mono ?_; rintro e w1 ⟨rfl, hb1⟩; unfold sqV; rw [HK.out.1, (show q.kd = kk + 1 from HK.out.2), show ((kk + 1 : Nat) : Int) = (kk : Int) + 1 from rfl, show ((h + 1 : Nat) : Int) = (h : Int) + 1 from rfl])
  go_name_world W hW
  have hgb : W.heap[w1.heap.size]? = some (.cells #[.int .i64 ((h : Int) + 1), .int .u64 (q.tl : Nat), .int .i64 (q.ka : Nat), .int .i64 (q.kb : Nat), .int .i64 (q.kc : Nat), .int .i64 ((kk : Int) + 1)] 103 (0, 0)) := by rw [← hW]; exact heap_alloc_new w1 _
  have hB : Below w.heap.size w W := by rw [← hW]; exact hb1.trans ((Below.refl _ _).alloc hb1.size _)
  have hz := hb1.size
  clear hW hb1
  generalize w1.heap.size = gb at *
  have b0 : W.cell? ⟨gb, 0, none⟩ = some (.int .i64 ((h : Int) + 1)) := cell_of_row _ _ 0 _ _ _ hgb
  have bk : W.cell? ⟨gb, 5, none⟩ = some (.int .i64 ((kk : Int) + 1)) := cell_of_row _ _ 5 _ _ _ hgb
  have HB := Lib.hid (And.intro hgb (And.intro hB hz))
  clear hgb hB hz
  go_upto_region 10 with fail
  go_quiet (fail)
  go_upto_region 11 with fail
  go_name_world V hV
  have bk : V.cell? ⟨gb, 5, none⟩ = some (.int .i64 ((kk : Int) + 1)) := by rw [← hV]; exact bk
  have HV := Lib.hid (show V.heap[gb]? = some (.cells #[.int .i64 ((h : Int) + 1), .int .u64 (q.tl : Nat), .int .i64 (q.ka : Nat), .int .i64 (q.kb : Nat), .int .i64 (q.kc : Nat), .int .i64 ((kk : Int) + 1)] 103 (0, 0)) ∧ Below w.heap.size w V ∧ w.heap.size ≤ gb by
    rw [← hV]; exact ⟨HB.out.1, below_drewN HB.out.2.1 _, HB.out.2.2⟩)
  have HX := Lib.hid (fun (U T : World) (ha : Acted U T p R M F) (e : U.heap = V.heap) => ha.row e HV.out.1 (fun hf => by have := HF.out gb hf; have := HV.out.2.2; omega))
  clear b0 HB hV
  have HZ := Lib.hid (show errv 6 = .iface 96 (.int .i64 ((5 + 1 : Nat) : Int)) from errv_succ 5)
  go_region_held3 (fun w' => w'.cell? ⟨gb, 5, none⟩ = some (.int .i64 ((kk : Int) + 1))) (go_keep) ((go_at_call 22; refine (HI.out _ (below_drewN HV.out.2.1 _)).mono ?_; rintro e w2 ⟨rfl, ha⟩; have r2 := HX.out _ _ ha rfl; have s0 := cell_of_row _ _ 5 _ _ _ r2; rw [HZ.out]))
  clear s0 r2 bk v0 v1 v2 v3 ex0 ey0 mxe mye
  go_wp2
  go_ret2
  exact ⟨by rw [HZ.out]; rfl, ha.before (below_drewN HV.out.2.1 _)⟩


theorem set_ok : ∀ (n : Nat) (w : World) (p R : Nat) (L : List Sq) (F : Nat → Prop) (k : Nat) (q : Sq) (x y : Nat) (v : Bool), Store w p R L F → L[k]? = some q → q.lv = n + 3 → x < 2 ^ (n + 3) → y < 2 ^ (n + 3) →
    Calls Try.prog 22 #[.pointer (some ⟨p, 0, none⟩), .int .i64 ((k : Int) + 1), .int .i64 (x : Nat), .int .i64 (y : Nat), .bool v] w fun e w' =>
      e = .returned (.tuple #[.int .i64 ((setL R n L (k + 1) x y v).2.1 : Nat), errv (setL R n L (k + 1) x y v).2.2]) ∧ Acted w w' p R (setL R n L (k + 1) x y v).1 F
  | 0, w, p, R, L, F, k, q, x, y, v, hs, hq, hl, hx, hy => by
    have hq1 : at? L (k + 1) = some q := hq
    have e : setL R 0 L (k + 1) x y v = leafL R L (tsetN q.tl x y v) := by simp [setL, hq1]
    rw [e]
    exact set_leaf w p R L F k q x y v hs hq hl hx hy
  | n + 1, w, p, R, L, F, k, q, x, y, v, hs, hq, hl, hx, hy => by
    have hq1 : at? L (k + 1) = some q := hq
    have hlv := hs.wf.lv hq1
    have dx := div_half hx
    have dy := div_half hy
    obtain ⟨i, hi⟩ : ∃ i, i = x / 2 ^ (n + 3) + 2 * (y / 2 ^ (n + 3)) := ⟨_, rfl⟩
    obtain ⟨r, hr⟩ : ∃ r, r = setL R n L (kidOf q i) (x % 2 ^ (n + 3)) (y % 2 ^ (n + 3)) v := ⟨_, rfl⟩
    obtain ⟨kk, rr, hk1, hk2, hk3, hk4⟩ := kid_at hs.wf hq1 (h := n + 3) hl (by omega) i
    have hkk : at? L (kidOf q i) = some rr := by rw [hk1]; exact hk2
    obtain ⟨q1, s1⟩ := setL_spec R n L (kidOf q i) rr (x % 2 ^ (n + 3)) (y % 2 ^ (n + 3)) v hs.wf hkk hk3 (mod_half n x) (mod_half n y)
    rw [← hr] at s1
    have e : setL R (n + 1) L (k + 1) x y v = if r.2.2 = 0 then nodeL R r.1 (if i = 0 then r.2.1 else q.ka) (if i = 1 then r.2.1 else q.kb) (if i = 2 then r.2.1 else q.kc) (if i = 3 then r.2.1 else q.kd) else (r.1, 0, r.2.2) := by
      simp only [setL, hq1]
      rw [← hi, ← hr]
    have ih := fun W (h : Store W p R L F) => set_ok n W p R L F kk rr (x % 2 ^ (n + 3)) (y % 2 ^ (n + 3)) v h hk2 hk3 (mod_half n x) (mod_half n y)
    rw [← hk1, ← hr] at ih
    rw [e]
    clear hr e hkk
    by_cases h0 : r.2.2 = 0
    · rw [if_pos h0]
      rw [h0, errv_zero] at ih
      rcases lt_two dx with ex | ex <;> rcases lt_two dy with ey | ey <;> rw [ex, ey] at hi
      · subst hi
        exact set_n0 w p R L r.1 F k kk r.2.1 (n + 3) q x y v hs hq hl (by omega) (by omega) hx hy ex ey hk1 ih
      · subst hi
        exact set_n2 w p R L r.1 F k kk r.2.1 (n + 3) q x y v hs hq hl (by omega) (by omega) hx hy ex ey hk1 ih
      · subst hi
        exact set_n1 w p R L r.1 F k kk r.2.1 (n + 3) q x y v hs hq hl (by omega) (by omega) hx hy ex ey hk1 ih
      · subst hi
        exact set_n3 w p R L r.1 F k kk r.2.1 (n + 3) q x y v hs hq hl (by omega) (by omega) hx hy ex ey hk1 ih
    · have hb := s1.made.bad h0
      rw [if_neg h0, hb.1]
      rw [hb.1, hb.2] at ih
      rcases lt_two dx with ex | ex <;> rcases lt_two dy with ey | ey <;> rw [ex, ey] at hi
      · subst hi
        exact set_n0_bad w p R L r.1 F k kk (n + 3) q x y v hs hq hl (by omega) (by omega) hx hy ex ey hk1 ih
      · subst hi
        exact set_n2_bad w p R L r.1 F k kk (n + 3) q x y v hs hq hl (by omega) (by omega) hx hy ex ey hk1 ih
      · subst hi
        exact set_n1_bad w p R L r.1 F k kk (n + 3) q x y v hs hq hl (by omega) (by omega) hx hy ex ey hk1 ih
      · subst hi
        exact set_n3_bad w p R L r.1 F k kk (n + 3) q x y v hs hq hl (by omega) (by omega) hx hy ex ey hk1 ih
end Go.Proofs.Ytmabgfdibbidcaa
