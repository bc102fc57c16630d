/- Contracts of package quad: what a store tells of a square: Level, Tile, Kids, Count, Len. -/
import Derived.Test.YtmabgfdibbidcaaQuadB
namespace Go.Proofs.Ytmabgfdibbidcaa
open Go.RowKit

set_option maxRecDepth 100000 in
set_option maxHeartbeats 1000000 in
theorem level_ok (w : World) (p R : Nat) (L : List Sq) (F : Nat → Prop) (id : Int) (q : Sq) (hs : Store w p R L F) (h0 : 0 ≤ id) (hq : at? L id.toNat = some q) :
    Calls Try.prog 32 #[.pointer (some ⟨p, 0, none⟩), .int .i64 id] w fun e w' => e = .returned (.tuple #[.int .i64 (q.lv : Nat), .nilIface]) ∧ Below w.heap.size w w' := by
  have H := at_ok w p R L F id q hs h0 hq
  have HH := Lib.hid H
  clear H hs hq
  go_enter Try.func32, Try.ntmps32
  go_wp2_with (go_at_call 44; refine HH.out.mono ?_; rintro e w1 ⟨rfl, hb1⟩; unfold sqV)
  go_ret2
  exact ⟨rfl, hb1.trans ((Below.refl _ _).alloc hb1.size _)⟩
set_option maxRecDepth 100000 in
set_option maxHeartbeats 1000000 in
theorem level_none (w : World) (p R : Nat) (L : List Sq) (F : Nat → Prop) (id : Int) (hs : Store w p R L F) (h0 : id < 1 ∨ (L.length : Int) < id) :
    Calls Try.prog 32 #[.pointer (some ⟨p, 0, none⟩), .int .i64 id] w fun e w' => e = .returned (.tuple #[.int .i64 0, errv 8]) ∧ Below w.heap.size w w' := by
  have H := at_none w p R L F id hs h0
  have HH := Lib.hid H
  clear H hs h0
  go_enter Try.func32, Try.ntmps32
  go_wp2_with (go_at_call 44; refine HH.out.mono ?_; rintro e w1 ⟨rfl, hb1⟩; unfold zeroSq errv)
  go_ret2
  exact ⟨rfl, hb1.trans ((Below.refl _ _).alloc hb1.size _)⟩
set_option maxRecDepth 100000 in
set_option maxHeartbeats 1000000 in
theorem level_nil (w : World) (id : Int) :
    Calls Try.prog 32 #[.pointer none, .int .i64 id] w fun e w' => e = .returned (.tuple #[.int .i64 0, errv 1]) ∧ Below w.heap.size w w' := by
  go_enter Try.func32, Try.ntmps32
  go_wp2_with (go_at_call 44; refine (at_nil _ _).mono ?_; rintro e w1 ⟨rfl, hb1⟩; unfold zeroSq errv)
  go_ret2
  exact ⟨rfl, hb1.trans ((Below.refl _ _).alloc hb1.size _)⟩

set_option maxRecDepth 100000 in
set_option maxHeartbeats 1000000 in
theorem qtile_leaf (w : World) (p R : Nat) (L : List Sq) (F : Nat → Prop) (id : Int) (q : Sq) (hs : Store w p R L F) (h0 : 0 ≤ id) (hq : at? L id.toNat = some q) (h3 : q.lv = 3) :
    Calls Try.prog 35 #[.pointer (some ⟨p, 0, none⟩), .int .i64 id] w fun e w' => e = .returned (.tuple #[.int .u64 (q.tl : Nat), .nilIface]) ∧ Below w.heap.size w w' := by
  have H := at_ok w p R L F id q hs h0 hq
  unfold sqV at H
  rw [h3] at H
  have HH := Lib.hid H
  clear H hs hq h3
  go_enter Try.func35, Try.ntmps35
  go_wp2_with (go_at_call 44; refine HH.out.mono ?_; rintro e w1 ⟨rfl, hb1⟩)
  go_ret2
  exact ⟨rfl, hb1.trans ((Below.refl _ _).alloc hb1.size _)⟩
set_option maxRecDepth 100000 in
set_option maxHeartbeats 1000000 in
theorem qtile_node (w : World) (p R : Nat) (L : List Sq) (F : Nat → Prop) (id : Int) (q : Sq) (hs : Store w p R L F) (h0 : 0 ≤ id) (hq : at? L id.toNat = some q) (h3 : 3 < q.lv) :
    Calls Try.prog 35 #[.pointer (some ⟨p, 0, none⟩), .int .i64 id] w fun e w' => e = .returned (.tuple #[.int .u64 0, errv 1]) ∧ Below w.heap.size w w' := by
  have H := at_ok w p R L F id q hs h0 hq
  have HH := Lib.hid H
  clear H hs hq
  have h3' : (3 : Int) < (q.lv : Nat) := by omega
  clear h3
  go_enter Try.func35, Try.ntmps35
  go_wp2_with (go_at_call 44; refine HH.out.mono ?_; rintro e w1 ⟨rfl, hb1⟩; unfold sqV)
  go_ret2
  exact ⟨rfl, hb1.trans ((Below.refl _ _).alloc hb1.size _)⟩
set_option maxRecDepth 100000 in
set_option maxHeartbeats 1000000 in
theorem qtile_none (w : World) (p R : Nat) (L : List Sq) (F : Nat → Prop) (id : Int) (hs : Store w p R L F) (h0 : id < 1 ∨ (L.length : Int) < id) :
    Calls Try.prog 35 #[.pointer (some ⟨p, 0, none⟩), .int .i64 id] w fun e w' => e = .returned (.tuple #[.int .u64 0, errv 8]) ∧ Below w.heap.size w w' := by
  have H := at_none w p R L F id hs h0
  have HH := Lib.hid H
  clear H hs h0
  go_enter Try.func35, Try.ntmps35
  go_wp2_with (go_at_call 44; refine HH.out.mono ?_; rintro e w1 ⟨rfl, hb1⟩; unfold zeroSq errv)
  go_ret2
  exact ⟨rfl, hb1.trans ((Below.refl _ _).alloc hb1.size _)⟩

def kidsV (q : Sq) : Value := .agg #[.int .i64 (q.ka : Nat), .int .i64 (q.kb : Nat), .int .i64 (q.kc : Nat), .int .i64 (q.kd : Nat)]
def zero4 : Value := .agg #[.int .i64 0, .int .i64 0, .int .i64 0, .int .i64 0]
theorem fourT_size : (Try.prog.info? 29).map (·.size) = some 4 := by kernel_rfl
set_option maxRecDepth 100000 in
set_option maxHeartbeats 1000000 in
theorem kids_node (w : World) (p R : Nat) (L : List Sq) (F : Nat → Prop) (id : Int) (q : Sq) (hs : Store w p R L F) (h0 : 0 ≤ id) (hq : at? L id.toNat = some q) (h3 : 3 < q.lv) :
    Calls Try.prog 34 #[.pointer (some ⟨p, 0, none⟩), .int .i64 id] w fun e w' => e = .returned (.tuple #[kidsV q, .nilIface]) ∧ Below w.heap.size w w' := by
  have H := fun o => at_ok (w.alloc o) p R L F id q (hs.alloc o) h0 hq
  have HH := Lib.hid H
  clear H hs hq
  have h3' : ((q.lv : Nat) == (3 : Int)) = false := by simp; omega
  clear h3
  go_enter Try.func34, Try.ntmps34
  go_wp2_with (first
    | (go_at_call 44; refine (HH.out _).mono ?_; rintro e w1 ⟨rfl, hb1⟩; unfold sqV; obtain ⟨r1, B1, z1⟩ := box1 _ _ hb1; have r2 := fun o => (Below.heap_alloc w1 o _ z1).trans r1)
    | (with_reducible refine wpList_store_row rfl 29 (.tmp 4) (.tmp 24) rfl w.heap.size rfl 29 _ #[.int .i64 (q.ka : Nat), .int .i64 (q.kb : Nat), .int .i64 (q.kc : Nat), .int .i64 (q.kd : Nat)] (r2 _) rfl (by kernel_rfl) (by kernel_rfl) (by kernel_rfl) ?_))
  refine bodyPost_ret (res_row_tmp (p := 4) (u := 5) (ty := 29) rfl _ _ w.heap.size 29 #[.int .i64 (q.ka : Nat), .int .i64 (q.kb : Nat), .int .i64 (q.kc : Nat), .int .i64 (q.kd : Nat)] (0, 0) _ rfl (setRow_heap _ _ _ _ _ _ (r2 _)) Try.underlying29 rfl (by kernel_rfl)) rfl ⟨rfl, bel_setRow (B1.alloc (by omega) _) (Nat.le_refl _) _⟩
set_option maxRecDepth 100000 in
set_option maxHeartbeats 1000000 in
theorem kids_leaf (w : World) (p R : Nat) (L : List Sq) (F : Nat → Prop) (id : Int) (q : Sq) (hs : Store w p R L F) (h0 : 0 ≤ id) (hq : at? L id.toNat = some q) (h3 : q.lv = 3) :
    Calls Try.prog 34 #[.pointer (some ⟨p, 0, none⟩), .int .i64 id] w fun e w' => e = .returned (.tuple #[zero4, errv 1]) ∧ Below w.heap.size w w' := by
  have H := fun o => at_ok (w.alloc o) p R L F id q (hs.alloc o) h0 hq
  unfold sqV at H
  rw [h3] at H
  have HH := Lib.hid H
  clear H hs hq h3
  go_enter Try.func34, Try.ntmps34
  go_wp2_with (first
    | (go_at_call 44; refine (HH.out _).mono ?_; rintro e w1 ⟨rfl, hb1⟩; obtain ⟨r1, B1, z1⟩ := box1 _ _ hb1; have r2 := fun o => (Below.heap_alloc w1 o _ z1).trans r1)
    | (with_reducible refine wpList_store_row rfl 29 (.tmp 4) (.tmp 21) rfl w.heap.size rfl 29 _ #[.int .i64 0, .int .i64 0, .int .i64 0, .int .i64 0] (r2 _) rfl (by kernel_rfl) (by kernel_rfl) (by kernel_rfl) ?_))
  refine bodyPost_ret (res_row_tmp (p := 4) (u := 5) (ty := 29) rfl _ _ w.heap.size 29 #[.int .i64 0, .int .i64 0, .int .i64 0, .int .i64 0] (0, 0) _ rfl (setRow_heap _ _ _ _ _ _ (r2 _)) Try.underlying29 rfl (by kernel_rfl)) rfl ⟨rfl, bel_setRow (B1.alloc (by omega) _) (Nat.le_refl _) _⟩
set_option maxRecDepth 100000 in
set_option maxHeartbeats 1000000 in
theorem kids_none (w : World) (p R : Nat) (L : List Sq) (F : Nat → Prop) (id : Int) (hs : Store w p R L F) (h0 : id < 1 ∨ (L.length : Int) < id) :
    Calls Try.prog 34 #[.pointer (some ⟨p, 0, none⟩), .int .i64 id] w fun e w' => e = .returned (.tuple #[zero4, errv 8]) ∧ Below w.heap.size w w' := by
  have H := fun o => at_none (w.alloc o) p R L F id (hs.alloc o) h0
  have HH := Lib.hid H
  clear H hs h0
  go_enter Try.func34, Try.ntmps34
  go_wp2_with (first
    | (go_at_call 44; refine (HH.out _).mono ?_; rintro e w1 ⟨rfl, hb1⟩; unfold zeroSq errv; obtain ⟨r1, B1, z1⟩ := box1 _ _ hb1; have r2 := fun o => (Below.heap_alloc w1 o _ z1).trans r1)
    | (with_reducible refine wpList_store_row rfl 29 (.tmp 4) (.tmp 24) rfl w.heap.size rfl 29 _ #[.int .i64 0, .int .i64 0, .int .i64 0, .int .i64 0] (r2 _) rfl (by kernel_rfl) (by kernel_rfl) (by kernel_rfl) ?_))
  refine bodyPost_ret (res_row_tmp (p := 4) (u := 5) (ty := 29) rfl _ _ w.heap.size 29 #[.int .i64 0, .int .i64 0, .int .i64 0, .int .i64 0] (0, 0) _ rfl (setRow_heap _ _ _ _ _ _ (r2 _)) Try.underlying29 rfl (by kernel_rfl)) rfl ⟨rfl, bel_setRow (B1.alloc (by omega) _) (Nat.le_refl _) _⟩

set_option maxRecDepth 100000 in
set_option maxHeartbeats 1000000 in
theorem count_ok (w : World) (p R : Nat) (L : List Sq) (F : Nat → Prop) (id : Int) (q : Sq) (hs : Store w p R L F) (h0 : 0 ≤ id) (hq : at? L id.toNat = some q) :
    Calls Try.prog 16 #[.pointer (some ⟨p, 0, none⟩), .int .i64 id] w fun e w' => e = .returned (.tuple #[.int .i64 (cnt L id.toNat : Nat), .nilIface]) ∧ Below w.heap.size w w' := by
  have H := at_ok w p R L F id q hs h0 hq
  have HH := Lib.hid H
  have hl := hs.len
  have hp := hs.lt p hs.self
  obtain ⟨k, hk⟩ : ∃ k, id.toNat = k + 1 := ⟨id.toNat - 1, by have := at?_pos hq; omega⟩
  have hle := at?_le hq
  rw [hk] at hq hle
  rw [hk]
  obtain ⟨lv, mv, kb, hst, hF⟩ := hs.at'
  have hv : ∀ g, mv.ownBlock = some g → g < w.heap.size := fun g hg => hs.lt g (hF g (.inr (.inr (.inr hg))))
  obtain ⟨g, cap, rfl, hr⟩ := hst.mv_at hq
  have hg := hv g rfl
  obtain ⟨c0, c1, c2, c3⟩ := hst.cells
  have i1 : 1 ≤ id := by omega
  have i2 : id ≤ (L.length : Nat) := by omega
  clear H hst hs hF hv hq
  go_enter Try.func16, Try.ntmps16
  go_wp2_with (go_at_call 44; refine HH.out.mono ?_; rintro e w1 ⟨rfl, hb1⟩; unfold sqV; obtain ⟨hc1, hf1⟩ := bcell hb1; have z2 : p < w1.heap.size := Nat.lt_of_lt_of_le hp hb1.size; have z3 : g < w1.heap.size := Nat.lt_of_lt_of_le hg hb1.size)
  go_ret2
  exact ⟨rfl, hb1.trans ((Below.refl _ _).alloc hb1.size _)⟩
set_option maxRecDepth 100000 in
set_option maxHeartbeats 1000000 in
theorem count_none (w : World) (p R : Nat) (L : List Sq) (F : Nat → Prop) (id : Int) (hs : Store w p R L F) (h0 : id < 1 ∨ (L.length : Int) < id) :
    Calls Try.prog 16 #[.pointer (some ⟨p, 0, none⟩), .int .i64 id] w fun e w' => e = .returned (.tuple #[.int .i64 0, errv 8]) ∧ Below w.heap.size w w' := by
  have H := at_none w p R L F id hs h0
  have HH := Lib.hid H
  clear H hs h0
  go_enter Try.func16, Try.ntmps16
  go_wp2_with (go_at_call 44; refine HH.out.mono ?_; rintro e w1 ⟨rfl, hb1⟩; unfold zeroSq errv)
  go_ret2
  exact ⟨rfl, hb1.trans ((Below.refl _ _).alloc hb1.size _)⟩

set_option maxRecDepth 100000 in
set_option maxHeartbeats 1000000 in
theorem len_ok (w : World) (p R : Nat) (L : List Sq) (F : Nat → Prop) (hs : Store w p R L F) :
    Calls Try.prog 25 #[.pointer (some ⟨p, 0, none⟩)] w fun e w' => e = .returned (.int .i64 (L.length : Nat)) ∧ w = w' := by
  have hl := hs.len
  obtain ⟨lv, mv, kb, hst, hF⟩ := hs.at'
  obtain ⟨ao, cap, rfl⟩ := hst.lv_len
  obtain ⟨c0, c1, c2, c3⟩ := hst.cells
  clear hst hs hF
  go_enter Try.func25, Try.ntmps25
  go_wp2
  go_ret
  exact ⟨rfl, rfl⟩
end Go.Proofs.Ytmabgfdibbidcaa
