/- Contracts of package quad: cell, Get. -/
import Derived.Test.YtmabgfdibbidcaaQuadI
namespace Go.Proofs.Ytmabgfdibbidcaa
open Go.RowKit

set_option maxRecDepth 100000 in
set_option maxHeartbeats 4000000 in
theorem cell_ok (w : World) (p R : Nat) (L : List Sq) (F : Nat → Prop) (k : Nat) (q : Sq) (x y : Nat) (hs : Store w p R L F) (hq : L[k]? = some q) (hx : x < 2 ^ q.lv) (hy : y < 2 ^ q.lv) :
    Calls Try.prog 46 #[.pointer (some ⟨p, 0, none⟩), .int .i64 ((k : Int) + 1), .int .i64 (x : Nat), .int .i64 (y : Nat)] w fun e w' => e = .returned (.tuple #[sqV q, .nilIface]) ∧ Below w.heap.size w w' := by
  have hlv := hs.wf.lv (k := k + 1) hq
  have H := fun o => at_okk (w.alloc o) p R L F k q (hs.alloc o) hq
  have HH := Lib.hid H
  have ex : (x : Int) / 2 ^ q.lv = 0 := by
    have : ((x : Int) / 2 ^ q.lv) = ((x / 2 ^ q.lv : Nat) : Int) := by simp
    rw [this, Nat.div_eq_of_lt hx]; rfl
  have ey : (y : Int) / 2 ^ q.lv = 0 := by
    have : ((y : Int) / 2 ^ q.lv) = ((y / 2 ^ q.lv : Nat) : Int) := by simp
    rw [this, Nat.div_eq_of_lt hy]; rfl
  have l1 : (q.lv : Int) ≤ 40 := by omega
  have l0 : (3 : Int) ≤ q.lv := by omega
  unfold sqV
  clear H hs hq hx hy hlv
  go_enter Try.func46, Try.ntmps46
  go_wp2_with (first
    | (go_at_call 44; refine (HH.out _).mono ?_; rintro e w1 ⟨rfl, hb1⟩; obtain ⟨r1, B1, z1⟩ := box1 _ _ hb1; have r2 := fun o => (Below.heap_alloc w1 o _ z1).trans r1)
    | (with_reducible refine wpList_store_row rfl 103 (.tmp 8) (.tmp 43) rfl w.heap.size rfl 103 _ #[.int .i64 (q.lv : Nat), .int .u64 (q.tl : Nat), .int .i64 (q.ka : Nat), .int .i64 (q.kb : Nat), .int .i64 (q.kc : Nat), .int .i64 (q.kd : Nat)] (r2 _) rfl (by kernel_rfl) (by kernel_rfl) (by kernel_rfl) ?_))
  refine bodyPost_ret (res_row_tmp (p := 8) (u := 9) (ty := 103) rfl _ _ w.heap.size 103 #[.int .i64 (q.lv : Nat), .int .u64 (q.tl : Nat), .int .i64 (q.ka : Nat), .int .i64 (q.kb : Nat), .int .i64 (q.kc : Nat), .int .i64 (q.kd : Nat)] (0, 0) _ rfl (setRow_heap _ _ _ _ _ _ (r2 _)) Try.underlying103 rfl (by kernel_rfl)) rfl ⟨rfl, bel_setRow (B1.alloc (by omega) _) (Nat.le_refl _) _⟩

set_option maxRecDepth 100000 in
set_option maxHeartbeats 4000000 in
theorem cell_none (w : World) (p R : Nat) (L : List Sq) (F : Nat → Prop) (id x y : Int) (hs : Store w p R L F) (hx : id < 1 ∨ (L.length : Int) < id) :
    Calls Try.prog 46 #[.pointer (some ⟨p, 0, none⟩), .int .i64 id, .int .i64 x, .int .i64 y] w fun e w' => e = .returned (.tuple #[zeroSq, errv 8]) ∧ Below w.heap.size w w' := by
  have H := fun o => at_none (w.alloc o) p R L F id (hs.alloc o) hx
  have HH := Lib.hid H
  clear H hs hx
  go_enter Try.func46, Try.ntmps46
  go_wp2_with (first
    | (go_at_call 44; refine (HH.out _).mono ?_; rintro e w1 ⟨rfl, hb1⟩; unfold zeroSq errv; obtain ⟨r1, B1, z1⟩ := box1 _ _ hb1; have r2 := fun o => (Below.heap_alloc w1 o _ z1).trans r1)
    | (with_reducible refine wpList_store_row rfl 103 (.tmp 8) (.tmp 43) rfl w.heap.size rfl 103 _ #[.int .i64 0, .int .u64 0, .int .i64 0, .int .i64 0, .int .i64 0, .int .i64 0] (r2 _) rfl (by kernel_rfl) (by kernel_rfl) (by kernel_rfl) ?_))
  refine bodyPost_ret (res_row_tmp (p := 8) (u := 9) (ty := 103) rfl _ _ w.heap.size 103 #[.int .i64 0, .int .u64 0, .int .i64 0, .int .i64 0, .int .i64 0, .int .i64 0] (0, 0) _ rfl (setRow_heap _ _ _ _ _ _ (r2 _)) Try.underlying103 rfl (by kernel_rfl)) rfl ⟨rfl, bel_setRow (B1.alloc (by omega) _) (Nat.le_refl _) _⟩

set_option maxRecDepth 100000 in
set_option maxHeartbeats 4000000 in
theorem cell_nil (w : World) (id x y : Int) :
    Calls Try.prog 46 #[.pointer none, .int .i64 id, .int .i64 x, .int .i64 y] w fun e w' => e = .returned (.tuple #[zeroSq, errv 1]) ∧ Below w.heap.size w w' := by
  have H := fun o => at_nil id (w.alloc o)
  have HH := Lib.hid H
  clear H
  go_enter Try.func46, Try.ntmps46
  go_wp2_with (first
    | (go_at_call 44; refine (HH.out _).mono ?_; rintro e w1 ⟨rfl, hb1⟩; unfold zeroSq errv; obtain ⟨r1, B1, z1⟩ := box1 _ _ hb1; have r2 := fun o => (Below.heap_alloc w1 o _ z1).trans r1)
    | (with_reducible refine wpList_store_row rfl 103 (.tmp 8) (.tmp 43) rfl w.heap.size rfl 103 _ #[.int .i64 0, .int .u64 0, .int .i64 0, .int .i64 0, .int .i64 0, .int .i64 0] (r2 _) rfl (by kernel_rfl) (by kernel_rfl) (by kernel_rfl) ?_))
  refine bodyPost_ret (res_row_tmp (p := 8) (u := 9) (ty := 103) rfl _ _ w.heap.size 103 #[.int .i64 0, .int .u64 0, .int .i64 0, .int .i64 0, .int .i64 0, .int .i64 0] (0, 0) _ rfl (setRow_heap _ _ _ _ _ _ (r2 _)) Try.underlying103 rfl (by kernel_rfl)) rfl ⟨rfl, bel_setRow (B1.alloc (by omega) _) (Nat.le_refl _) _⟩

set_option maxRecDepth 100000 in
set_option maxHeartbeats 4000000 in
theorem get_none (w : World) (p R : Nat) (L : List Sq) (F : Nat → Prop) (id x y : Int) (hs : Store w p R L F) (hx : id < 1 ∨ (L.length : Int) < id) :
    Calls Try.prog 20 #[.pointer (some ⟨p, 0, none⟩), .int .i64 id, .int .i64 x, .int .i64 y] w fun e w' => e = .returned (.tuple #[.bool false, errv 8]) ∧ Below w.heap.size w w' := by
  have HH := Lib.hid (cell_none w p R L F id x y hs hx)
  clear hs hx
  go_enter Try.func20, Try.ntmps20
  go_wp2_with (go_at_call 46; refine HH.out.mono ?_; rintro e w1 ⟨rfl, hb1⟩; unfold zeroSq errv)
  go_ret2
  exact ⟨rfl, hb1.trans ((Below.refl _ _).alloc hb1.size _)⟩
set_option maxRecDepth 100000 in
set_option maxHeartbeats 4000000 in
theorem get_nil (w : World) (id x y : Int) :
    Calls Try.prog 20 #[.pointer none, .int .i64 id, .int .i64 x, .int .i64 y] w fun e w' => e = .returned (.tuple #[.bool false, errv 1]) ∧ Below w.heap.size w w' := by
  have HH := Lib.hid (cell_nil w id x y)
  go_enter Try.func20, Try.ntmps20
  go_wp2_with (go_at_call 46; refine HH.out.mono ?_; rintro e w1 ⟨rfl, hb1⟩; unfold zeroSq errv)
  go_ret2
  exact ⟨rfl, hb1.trans ((Below.refl _ _).alloc hb1.size _)⟩
set_option maxRecDepth 100000 in
set_option maxHeartbeats 4000000 in
theorem set_none (w : World) (p R : Nat) (L : List Sq) (F : Nat → Prop) (id x y : Int) (v : Bool) (hs : Store w p R L F) (hx : id < 1 ∨ (L.length : Int) < id) :
    Calls Try.prog 22 #[.pointer (some ⟨p, 0, none⟩), .int .i64 id, .int .i64 x, .int .i64 y, .bool v] w fun e w' => e = .returned (.tuple #[.int .i64 0, errv 8]) ∧ Below w.heap.size w w' := by
  have HH := Lib.hid (cell_none w p R L F id x y hs hx)
  clear hs hx
  go_enter Try.func22, Try.ntmps22
  go_wp2_with (go_at_call 46; refine HH.out.mono ?_; rintro e w1 ⟨rfl, hb1⟩; unfold zeroSq errv)
  go_ret2
  exact ⟨rfl, hb1.trans ((Below.refl _ _).alloc hb1.size _)⟩
set_option maxRecDepth 100000 in
set_option maxHeartbeats 4000000 in
theorem set_nil (w : World) (id x y : Int) (v : Bool) :
    Calls Try.prog 22 #[.pointer none, .int .i64 id, .int .i64 x, .int .i64 y, .bool v] w fun e w' => e = .returned (.tuple #[.int .i64 0, errv 1]) ∧ Below w.heap.size w w' := by
  have HH := Lib.hid (cell_nil w id x y)
  go_enter Try.func22, Try.ntmps22
  go_wp2_with (go_at_call 46; refine HH.out.mono ?_; rintro e w1 ⟨rfl, hb1⟩; unfold zeroSq errv)
  go_ret2
  exact ⟨rfl, hb1.trans ((Below.refl _ _).alloc hb1.size _)⟩
end Go.Proofs.Ytmabgfdibbidcaa
